/- What the law leans on: texts of this claim, put together. -/
import Derived.Test.YtfmefnejaocopaaEvCore
import Derived.Test.YtfmefnejaocopaaEvLoop
import Derived.Test.YtfmefnejaocopaaEvOpen
import Derived.Test.YtfmefnejaocopaaGRec
import Derived.Test.YtfmefnejaocopaaGRef07
import Derived.Test.YtfmefnejaocopaaGRef08
import Derived.Test.YtfmefnejaocopaaGModel
import Derived.Test.YtfmefnejaocopaaGRef16
import Derived.Test.YtfmefnejaocopaaGLaw17
import Derived.Test.YtfmefnejaocopaaGLaw19
import Derived.Test.YtfmefnejaocopaaR19pa
set_option linter.unusedSimpArgs false
set_option linter.unusedVariables false
namespace Ev
open Go (IntKind)

section
variable {H G : Heap} {v v' : RfV} {st st' : Sta}
def WornI (st : Sta) (K : Heap) (s0 : Sl) (k n : Int) (i : Nat) (y : Sl × Bool × Int × Unit) (G : Heap) : Prop :=
  ∃ s, y = (s, putI k (st.wn.take i), (i : Int), ()) ∧ Em K s0 2 G s (rowsOf ctW ((outI k n (st.wn.take i)).map rwn)) ∧ s.len = (outI k n (st.wn.take i)).length ∧ ∀ j (hj : j < st.wn.length), j < i → ¬ (st.wn[j].1 = k ∧ n < st.wn[j].2)
theorem arr0 (b : Nat) : arrAt 1 2 (b, 0) 0 = some (b, 0) := rfl
theorem arr1 (b : Nat) : arrAt 1 2 (b, 0) 1 = some (b, 1) := rfl
theorem worn_step (h : RfAt H v st) {k n : Int} {H1 : Heap} (hH1 : H1.length = H.length + 1) {t : Heap} (ht : t[0]? = some (.cells (vC v) .exact)) (ht1 : t[1]? = some (.cells [.sl 3 Sl.nil, .sl 3 Sl.nil, .sl 1 Sl.nil, .sl 2 Sl.nil] .exact)) {s0 : Sl} (hs0 : ∀ a, s0.p = some a → H.length + 1 < a.1)
    {i : Nat} (hi : i < st.wn.length) {y : Sl × Bool × Int × Unit} (hI : WornI st (H ++ t) s0 k n i y G) :
    WP (ref08_State_worn.s1 k n H H1 y G) fun r => Sum.elim (fun y => WornI st (H ++ t) s0 k n (i + 1) y r.2)
      (fun x => x = .inr () ∧ (st.wn[i].1 = k ∧ n < st.wn[i].2) ∧ RRes H v r.2 v st ∧ r.2[H.length + 1]? = some (.cells (vC v) .exact)) r.1 := by
  obtain ⟨s, rfl, hE, hn, hno⟩ := hI
  have hlm : (st.wn.map rwn).length = st.wn.length := List.length_map _
  have hx : (st.wn.map rwn)[i]'(by omega) = rwn st.wn[i] := List.getElem_map _
  obtain ⟨hG, hbox⟩ := h.box t ht (fun a ha => by have := hs0 a ha; omega) hE
  have hres : G[H.length + 1]? = some (.cells [.sl 3 Sl.nil, .sl 3 Sl.nil, .sl 1 Sl.nil, .sl 2 Sl.nil] .exact) := hE.get (by rw [tl_get1]; exact ht1) fun o ho => by have := hs0 _ ho; simp only at this; omega
  have hv : rdSl 2 G H.length 3 = some v.2.2.2.1 := rdSl_of hbox rfl
  obtain ⟨b0, o0, r1, r2, _⟩ := Row.rd (cts := ctW) (rows := st.wn.map rwn) hG.wn (i := i) (by omega) (by decide)
  rw [hx] at r2
  obtain ⟨x, hxx⟩ : ∃ x, x = st.wn[i] := ⟨_, rfl⟩
  rw [← hxx] at r2 ⊢
  have r2 : rd G (.agg [.int .i64, .int .i64]) b0 o0 = (some (x.1, x.2, ()) : Option (Int × Int × Unit)) := r2
  have htk := take_snoc hi
  rw [← hxx] at htk
  have hfew := h.w.feww
  obtain ⟨u1, u2⟩ := outI_snoc (k := k) n (l := st.wn.take i) (x := x) (by rw [← htk]; exact h.w.wn.sub (List.take_sublist _ _))
  have hol := outI_len (h.w.wn.sub (List.take_sublist i st.wn)) k n
  rw [List.length_take] at hol
  have hE0 := hE.push [.cells [.int .i64 x.1, .int .i64 x.2] .exact]
  have hgl : G.length = (G ++ [Blk.cells [.int .i64 x.1, .int .i64 x.2] .exact]).length - 1 := by simp
  have t0 : (G ++ [Blk.cells [.int .i64 x.1, .int .i64 x.2] .exact])[G.length]? = some (.cells [.int .i64 x.1, .int .i64 x.2] .exact) := by rw [tl_get0]; rfl
  have hw0 : wr (G ++ [Blk.cells [.int .i64 0, .int .i64 0] .exact]) G.length 0 [.int .i64 x.1, .int .i64 x.2] = some (G ++ [Blk.cells [.int .i64 x.1, .int .i64 x.2] .exact]) := by
    rw [wr_t0, wr_c0 _ _ _ _ (by simp)]; rfl
  have hsl : ∀ o, s.p ≠ some (G.length, o) := fun o hp => by have := hE.g.lt hp; simp only at this; omega
  have hw := wrap_succ (show i < 9223372036854775807 by omega)
  unfold ref08_State_worn.s1
  refine wp_to hv (wp_t (decide_eq_true (by rw [h.wnl]; exact Int.ofNat_lt.2 hi)) ?_)
  refine wp_to hv (wp_to r1 (wp_to r2 (wp_to hw0 ?_)))
  by_cases he : x.1 = k ∧ n < x.2
  · have hbox2 : (G ++ [Blk.cells [.int .i64 x.1, .int .i64 x.2] .exact])[H.length]? = some (.cells (vC v) .exact) := by rw [List.getElem?_append_left (get_lt hbox)]; exact hbox
    have hres2 : (G ++ [Blk.cells [.int .i64 x.1, .int .i64 x.2] .exact])[H.length + 1]? = some (.cells [.sl 3 Sl.nil, .sl 3 Sl.nil, .sl 1 Sl.nil, .sl 2 Sl.nil] .exact) := by rw [List.getElem?_append_left (get_lt hres)]; exact hres
    have hr : rd (G ++ [Blk.cells [.int .i64 x.1, .int .i64 x.2] .exact]) (.agg [.sl 3, .sl 3, .sl 1, .sl 2]) H.length 0 = (some v : Option RfV) := rd_agg_of hbox2 (by simp [vC]) rfl
    have hwr : wr (G ++ [Blk.cells [.int .i64 x.1, .int .i64 x.2] .exact]) (H.length + 1) 0 [.sl 3 v.1, .sl 3 v.2.1, .sl 1 v.2.2.1, .sl 2 v.2.2.2.1] = some ((G ++ [Blk.cells [.int .i64 x.1, .int .i64 x.2] .exact]).set (H.length + 1) (.cells (vC v) .exact)) := by
      rw [wr_of hres2 (by decide) (by simp)]; rfl
    refine wp_seq (fun p => p = (.inr (), (G ++ [Blk.cells [.int .i64 x.1, .int .i64 x.2] .exact]).set (H.length + 1) (.cells (vC v) .exact))) ?_ ?_
    · refine wp_to (arr0 _) (wp_to (rdI_of t0 rfl) (wp_t (decide_eq_true he.1) (wp_to (arr1 _) (wp_to (rdI_of t0 rfl) (wp_t (decide_eq_true he.2) (wp_to hr ?_))))))
      rw [hH1]
      exact wp_to hwr (wp_some rfl)
    · rintro _ rfl
      have hkk : Keep (fun b => b = H.length + 1) (G ++ [Blk.cells [.int .i64 x.1, .int .i64 x.2] .exact]) ((G ++ [Blk.cells [.int .i64 x.1, .int .i64 x.2] .exact]).set (H.length + 1) (.cells (vC v) .exact)) := Keep.set _ _ _ rfl
      refine wp_some ⟨rfl, he, ⟨(hG.keep (Keep.app (fun _ => False) G _) fun _ _ hf => hf).keep hkk fun b hb e => ?_, ⟨?_, fun b hb _ => ?_⟩, fun b hb => .inl hb⟩, set_get (get_lt hres2)⟩
      · have := h.lt hb; omega
      · have := hE.k.len; simp only [List.length_set, List.length_append] at this ⊢; omega
      · simp only
        have hk := hE.k.len
        simp only [List.length_append] at hk
        rw [set_get' (by omega), List.getElem?_append_left (by omega), hE.k.same b (by simp only [List.length_append]; omega) fun ⟨o, ho⟩ => by have := hs0 _ ho; simp only at this; omega, List.getElem?_append_left hb]
  · refine wp_seq (fun p => p = (.inl (), G ++ [Blk.cells [.int .i64 x.1, .int .i64 x.2] .exact])) ?_ ?_
    · refine wp_to (arr0 _) (wp_to (rdI_of t0 rfl) ?_)
      refine wp_if (p := x.1 = k) rfl (fun e => ?_) (fun e => wp_some rfl)
      exact wp_to (arr1 _) (wp_to (rdI_of t0 rfl) (wp_f (decide_eq_false fun hh => he ⟨e, hh⟩) (wp_some rfl)))
    · rintro _ rfl
      have hno' : ∀ j (hj : j < st.wn.length), j < i + 1 → ¬ (st.wn[j].1 = k ∧ n < st.wn[j].2) := fun j hj hji => by
        by_cases e2 : j = i
        · subst e2; rw [← hxx]; exact he
        · exact hno j hj (by omega)
      unfold WornI
      rw [htk, u1, u2]
      generalize outI k n (st.wn.take i) = out at hE hn hol hE0 ⊢
      generalize putI k (st.wn.take i) = put at ⊢
      refine wp_seq (fun p => p.1.2.1 = (put || decide (k ≤ x.1)) ∧ Em (H ++ t) s0 2 p.2 p.1.1 (rowsOf ctW ((out ++ if put = false ∧ k ≤ x.1 then [(k, n)] else []).map rwn)) ∧ p.1.1.len = (out ++ if put = false ∧ k ≤ x.1 then [(k, n)] else []).length ∧ p.2[G.length]? = some (.cells [.int .i64 x.1, .int .i64 x.2] .exact)) ?_ ?_
      · refine wp_seq (fun p => p = ((!put && decide (k ≤ x.1), ()), G ++ [Blk.cells [.int .i64 x.1, .int .i64 x.2] .exact])) ?_ ?_
        · refine wp_c (fun e => ?_) (fun e => ?_)
          · refine wp_to (arr0 _) (wp_to (rdI_of t0 rfl) (wp_some ?_))
            rw [show (!put) = true from e]; rfl
          · exact wp_some (by rw [show (!put) = false from e]; rfl)
        · rintro _ rfl
          refine wp_if (p := put = false ∧ k ≤ x.1) (by cases put <;> simp) (fun e => ?_) (fun e => ?_)
          · refine wp_appk hE0 rfl (by decide) (by omega) fun s' G' hE' hn' hk' _ => wp_some ⟨?_, ?_, ?_, hk' _ _ t0 hsl⟩
            · rw [e.1, decide_eq_true e.2]; rfl
            · rw [if_pos e, List.map_append, rowsOf_append']; exact hE'
            · rw [if_pos e, List.length_append, ← hn]; exact hn'
          · refine wp_some ⟨?_, ?_, ?_, t0⟩
            · show put = _
              cases put with
              | true => rfl
              | false => rw [decide_eq_false (fun hh => e ⟨rfl, hh⟩)]; rfl
            · rw [if_neg e, List.append_nil]; exact hE0
            · rw [if_neg e, List.append_nil]; exact hn
      · rintro ⟨⟨s1, put1, ⟨⟩⟩, G1⟩ ⟨rfl, hE1, hn1, t1⟩
        have hE1 : Em (H ++ t) s0 2 G1 s1 (rowsOf ctW ((out ++ if put = false ∧ k ≤ x.1 then [(k, n)] else []).map rwn)) := hE1
        have hn1 : s1.len = (out ++ if put = false ∧ k ≤ x.1 then [(k, n)] else []).length := hn1
        have hl1 : s1.len ≤ out.length + 1 := by rw [hn1, List.length_append]; split <;> simp
        refine wp_to (arr0 _) (wp_to (rdI_of t1 rfl) ?_)
        refine wp_if (p := ¬ x.1 = k) (by simp) (fun e => ?_) (fun e => ?_)
        · refine wp_to (rd3_of (cts := ctW) (x := (x.1, x.2, ())) t1 rfl) ?_
          refine wp_app hE1 rfl (by decide) (by omega) fun s' G' hE' hn' => wp_some ⟨s', ?_, ?_, ?_, hno'⟩
          · simp only [hw]
          · rw [if_neg e, List.map_append, rowsOf_append']; exact hE'
          · rw [if_neg e, List.length_append, ← hn1]; exact hn'
        · have e' : x.1 = k := by simpa using e
          refine wp_some ⟨s1, ?_, ?_, ?_, hno'⟩
          · simp only [hw]
          · rw [if_pos e', List.append_nil]; exact hE1
          · rw [if_pos e', List.append_nil]; exact hn1
theorem rf_worn (h : RfAt H v st) {k n : Int} (hk : 0 ≤ k ∧ k ≤ 31) : WP (ref08_State_worn v k n H) fun r => ∃ wn, ((∀ x ∈ st.wn, ¬ (x.1 = k ∧ n < x.2)) → wn = ains st.wn k n) ∧ ((∃ x ∈ st.wn, x.1 = k ∧ n < x.2) → wn = st.wn) ∧ RRes H v r.2 r.1.1 ⟨st.sp, st.lv, st.bd, wn⟩ := by
  have hfew := h.w.feww
  generalize ht : [Blk.cells [.sl 3 v.1, .sl 3 v.2.1, .sl 1 v.2.2.1, .sl 2 v.2.2.2.1] .exact, .cells [.sl 3 Sl.nil, .sl 3 Sl.nil, .sl 1 Sl.nil, .sl 2 Sl.nil] .exact, .cells [] .exact] = t
  have ht0 : t[0]? = some (.cells (vC v) .exact) := by rw [← ht]; rfl
  have ht2 : t[1]? = some (.cells [.sl 3 Sl.nil, .sl 3 Sl.nil, .sl 1 Sl.nil, .sl 2 Sl.nil] .exact) := by rw [← ht]; rfl
  have ht3 : t[2]? = some (.cells [] .exact) := by rw [← ht]; rfl
  have htl : t.length = 3 := by rw [← ht]; rfl
  have hs0 : ∀ a, (⟨some (H.length + 2, 0), 0, 0⟩ : Sl).p = some a → H.length + 1 < a.1 := fun a ha => by cases ha; simp only; omega
  have h0 : Em (H ++ t) ⟨some (H.length + 2, 0), 0, 0⟩ 2 (H ++ t) ⟨some (H.length + 2, 0), 0, 0⟩ [] := Em.start ⟨rfl, rfl, fun hh => (by cases hh), fun a ha => by cases ha; exact ⟨rfl, .inr (by rw [tl_get1]; exact ht3)⟩⟩
  have done : ∀ sF GF, (∀ x ∈ st.wn, ¬ (x.1 = k ∧ n < x.2)) → Em (H ++ t) ⟨some (H.length + 2, 0), 0, 0⟩ 2 GF sF (rowsOf ctW ((ains st.wn k n).map rwn)) → sF.len = (ains st.wn k n).length →
      WP ((wr GF H.length 3 [.sl 2 sF]).bind fun (H39 : Heap) => Option.bind (α := RfV) (rd H39 (.agg [.sl 3, .sl 3, .sl 1, .sl 2]) H.length 0) fun v40 => (wr H39 (H.length + 1) 0 [.sl 3 v40.1, .sl 3 v40.2.1, .sl 1 v40.2.2.1, .sl 2 v40.2.2.2.1]).bind fun (H41 : Heap) =>
        Option.bind (α := RfV) (rd H41 (.agg [.sl 3, .sl 3, .sl 1, .sl 2]) (H.length + 1) 0) fun v42 => some ((v42, ()), H41)) fun r => ∃ wn, ((∀ x ∈ st.wn, ¬ (x.1 = k ∧ n < x.2)) → wn = ains st.wn k n) ∧ ((∃ x ∈ st.wn, x.1 = k ∧ n < x.2) → wn = st.wn) ∧ RRes H v r.2 r.1.1 ⟨st.sp, st.lv, st.bd, wn⟩ := fun sF GF hno hE hl => by
    obtain ⟨hG, hbox⟩ := h.box t ht0 (fun a ha => by have := hs0 a ha; omega) hE
    have hres : GF[H.length + 1]? = some (.cells [.sl 3 Sl.nil, .sl 3 Sl.nil, .sl 1 Sl.nil, .sl 2 Sl.nil] .exact) := hE.get (by rw [tl_get1]; exact ht2) fun o ho => by have := hs0 _ ho; simp only at this; omega
    refine wp_fin (v' := (v.1, v.2.1, v.2.2.1, sF, ())) hbox hres rfl (by omega) (by decide) rfl ?_
    refine ⟨_, fun _ => rfl, fun ⟨x, hx, hh⟩ => absurd hh (hno x hx), ?_⟩
    refine rf_done (v' := (v.1, v.2.1, v.2.2.1, sF, ())) h (by omega) (by omega) hs0 hE ⟨h.w.wn' hk n, hG.sp, hG.lv, hG.bd, Row.grown hE.g, hG.spl, hG.lvl, hG.bdl, hl⟩ (fun b hb => ?_) _ _
    rcases hb with hb | hb | hb | hb
    · exact .inl (.inl hb)
    · exact .inl (.inr (.inl hb))
    · exact .inl (.inr (.inr (.inl hb)))
    · exact .inr hb
  have hall := outI_all k n st.wn
  unfold ref08_State_worn
  simp only [List.append_assoc, List.cons_append, List.nil_append, List.length_append, List.length_cons, List.length_nil, Nat.zero_add]
  rw [ht]
  refine wp_seq _ (wp_rise st.wn.length (WornI st (H ++ t) ⟨some (H.length + 2, 0), 0, 0⟩ k n)
    (fun x G => (x = .inr () ∧ (∃ x ∈ st.wn, x.1 = k ∧ n < x.2) ∧ RRes H v G v st ∧ G[H.length + 1]? = some (.cells (vC v) .exact)) ∨ ∃ s, x = .inl (s, putI k st.wn, ()) ∧ Em (H ++ t) ⟨some (H.length + 2, 0), 0, 0⟩ 2 G s (rowsOf ctW ((outI k n st.wn).map rwn)) ∧ s.len = (outI k n st.wn).length ∧ (∀ x ∈ st.wn, ¬ (x.1 = k ∧ n < x.2))) ?_ ?_ ?_) ?_
  · intro i y G hi hI
    exact wp_mono (worn_step h (by simp) ht0 ht2 (fun a ha => by have := hs0 a ha; omega) hi hI) fun r hr => by
      obtain ⟨r, G'⟩ := r
      cases r with
      | inl y => exact hr
      | inr x => exact .inl ⟨hr.1, ⟨_, List.getElem_mem hi, hr.2.1⟩, hr.2.2⟩
  · rintro y G ⟨s, rfl, hE, hn, hno⟩
    rw [List.take_length] at hE hn ⊢
    obtain ⟨_, hbox⟩ := h.box t ht0 (fun a ha => by have := hs0 a ha; omega) hE
    have hv : rdSl 2 G H.length 3 = some v.2.2.2.1 := rdSl_of hbox rfl
    unfold ref08_State_worn.s1
    exact wp_to hv (wp_f (decide_eq_false (by rw [h.wnl]; exact Int.lt_irrefl _)) (wp_some (.inr ⟨s, rfl, hE, hn, fun x hx => by obtain ⟨j, hj, rfl⟩ := List.getElem_of_mem hx; exact hno j hj hj⟩)))
  · exact ⟨_, rfl, h0, rfl, fun j _ hj => absurd hj (Nat.not_lt_zero _)⟩
  · rintro ⟨x, G⟩ (⟨rfl, hex, hr, hbx⟩ | ⟨s, rfl, hE, hn, hno⟩)
    · have hrd : rd G (.agg [.sl 3, .sl 3, .sl 1, .sl 2]) (H.length + 1) 0 = (some v : Option RfV) := rd_agg_of hbx (by simp [vC]) rfl
      refine wp_to hrd (wp_some ⟨st.wn, fun hno => ?_, fun _ => rfl, hr⟩)
      obtain ⟨x, hx, hh⟩ := hex
      exact absurd hh (hno x hx)
    · refine wp_c (fun e => ?_) (fun e => ?_)
      · have e : putI k st.wn = false := by simpa using e
        rw [if_pos e] at hall
        have hol := outI_len h.w.wn k n
        refine wp_app hE rfl (by decide) (by omega) fun s' G' hE' hn' => done s' G' hno ?_ ?_
        · rw [← hall, List.map_append, rowsOf_append']; exact hE'
        · rw [← hall, List.length_append, ← hn]; exact hn'
      · have e : ¬ putI k st.wn = false := by simpa using e
        rw [if_neg e, List.append_nil] at hall
        rw [hall] at hE hn
        exact done s G hno hE hn
end
end Ev

namespace Ev
open Go (IntKind)

section
variable {H G : Heap} {v v' : RfV} {st st' : Sta}
theorem SaW.gone (w : SaW st) (id : Int) : SaW ⟨adrop st.sp id, lvOff st.lv id, st.bd, st.wn⟩ :=
  ⟨w.sp.drop _, lvOff_asc w.lv id, w.bd, w.wn, fun y hy => by
    have hm := List.mem_filter.1 hy
    have hne : ¬ y.1 / 1024 = id := by simpa using hm.2
    show (afind (adrop st.sp id) (y.1 / 1024)).isSome = true
    rw [afind_drop w.sp, if_neg hne]
    exact w.own y hm.1, fun y hy => w.ids y ((adrop_sub _ _).subset hy), w.bds, w.wns⟩
theorem rf_trim (h : RfAt H v st) (id : Int) {p : Int} (hp : 0 ≤ p ∧ p < 1024) : WP (ref08_State_without v id p H) fun r => RRes H v r.2 r.1.1 ⟨st.sp, adrop st.lv (id * 1024 + p), st.bd, st.wn⟩ := by
  have hmany := h.w.many
  obtain ⟨s, G, e1, e2, e3, e4, e5⟩ := rf_without h.lv h.lvl (by omega) id p
  rw [stay_drop h.w.lv id hp] at e2 e3
  have hG := h.keep e4 fun _ _ hf => hf
  refine ⟨_, e1, ⟨h.w.less _, hG.sp, e2, hG.bd, hG.wn, hG.spl, e3, hG.bdl, hG.wnl⟩, e4, fun b hb => ?_⟩
  rcases hb with hb | hb | hb | hb
  · exact .inl (.inl hb)
  · obtain ⟨o, ho⟩ := hb
    exact .inr (by have := e5 b o ho; omega)
  · exact .inl (.inr (.inr (.inl hb)))
  · exact .inl (.inr (.inr (.inr hb)))
def offS (id : Int) (x : Int × Int × Bool) : Bool := !decide (x.1 = id)
theorem dropped_step (h : RfAt H v st) {id : Int} {t : Heap} (ht : t[0]? = some (.cells (vC v) .exact)) {s0 : Sl} (hs0 : ∀ a, s0.p = some a → H.length < a.1)
    {i : Nat} (hi : i < st.sp.length) {s : Sl} (hE : Em (H ++ t) s0 3 G s (rowsOf ctP (((st.sp.take i).filter (offS id)).map rsp))) (hn : s.len = ((st.sp.take i).filter (offS id)).length) :
    WP (ref08_State_dropped.s1 id H (s, (i : Int), ()) G) fun r => Sum.elim (fun y => ∃ s', y = (s', ((i + 1 : Nat) : Int), ()) ∧
      Em (H ++ t) s0 3 r.2 s' (rowsOf ctP (((st.sp.take (i + 1)).filter (offS id)).map rsp)) ∧ s'.len = ((st.sp.take (i + 1)).filter (offS id)).length) (fun _ => False) r.1 := by
  obtain ⟨hG, hbox⟩ := h.box t ht hs0 hE
  have hlm : (st.sp.map rsp).length = st.sp.length := List.length_map _
  have hx : (st.sp.map rsp)[i]'(by omega) = rsp st.sp[i] := List.getElem_map _
  have hv : rdSl 3 G H.length 0 = some v.1 := rdSl_of hbox rfl
  obtain ⟨b0, o0, r1, r2, _⟩ := Row.rd (cts := ctP) (rows := st.sp.map rsp) hG.sp (i := i) (by omega) (by decide)
  obtain ⟨b1, o1, r3, r4⟩ := row_int (cts := ctP) (rows := st.sp.map rsp) hG.sp (i := i) (by omega) (by decide) (j := 0) (n := st.sp[i].1) (by decide) (by rw [hx]; rfl)
  rw [r1] at r3
  cases r3
  rw [hx] at r2
  have r4 : rdI .i64 G b0 o0 = some st.sp[i].1 := r4
  have hl := List.length_filter_le (offS id) (st.sp.take i)
  rw [List.length_take] at hl
  have hfew := h.w.few
  have hw := wrap_succ (show i < 9223372036854775807 by omega)
  rw [take_snoc hi, List.filter_append, List.filter_cons]
  unfold ref08_State_dropped.s1
  refine wp_to hv (wp_t (decide_eq_true (by rw [h.spl]; exact Int.ofNat_lt.2 hi)) ?_)
  refine wp_to hv (wp_to r1 (wp_to r4 ?_))
  refine wp_if (p := ¬ st.sp[i].1 = id) (by simp) (fun e => ?_) (fun e => ?_)
  · refine wp_to hv (wp_to r1 (wp_to r2 ?_))
    refine wp_app hE rfl (by decide) (by omega) fun s' G' hE' hn' => wp_some ⟨s', ?_, ?_, ?_⟩
    · simp only [hw]
    · rw [if_pos (by unfold offS; simpa using e), List.map_append, rowsOf_append']; exact hE'
    · rw [if_pos (by unfold offS; simpa using e), List.length_append, ← hn]; exact hn'
  · have e' : ¬ offS id st.sp[i] = true := by unfold offS; simpa using e
    refine wp_some ⟨s, ?_, ?_, ?_⟩
    · simp only [hw]
    · rw [if_neg e', List.filter_nil, List.append_nil]; exact hE
    · rw [if_neg e', List.filter_nil, List.append_nil]; exact hn
theorem rf_dropped (h : RfAt H v st) (id : Int) : WP (ref08_State_dropped v id H) fun r => RRes H v r.2 r.1.1 ⟨adrop st.sp id, lvOff st.lv id, st.bd, st.wn⟩ := by
  have hfew := h.w.few
  have hmany := h.w.many
  generalize ht : [Blk.cells [.sl 3 v.1, .sl 3 v.2.1, .sl 1 v.2.2.1, .sl 2 v.2.2.2.1] .exact, .cells [.sl 3 Sl.nil, .sl 3 Sl.nil, .sl 1 Sl.nil, .sl 2 Sl.nil] .exact, .cells [] .exact] = t
  have ht0 : t[0]? = some (.cells (vC v) .exact) := by rw [← ht]; rfl
  have ht2 : t[1]? = some (.cells [.sl 3 Sl.nil, .sl 3 Sl.nil, .sl 1 Sl.nil, .sl 2 Sl.nil] .exact) := by rw [← ht]; rfl
  have ht3 : t[2]? = some (.cells [] .exact) := by rw [← ht]; rfl
  have htl : t.length = 3 := by rw [← ht]; rfl
  have hs0 : ∀ a, (⟨some (H.length + 2, 0), 0, 0⟩ : Sl).p = some a → H.length + 1 < a.1 := fun a ha => by cases ha; simp only; omega
  have h0 : Em (H ++ t) ⟨some (H.length + 2, 0), 0, 0⟩ 3 (H ++ t) ⟨some (H.length + 2, 0), 0, 0⟩ [] := Em.start ⟨rfl, rfl, fun hh => (by cases hh), fun a ha => by cases ha; exact ⟨rfl, .inr (by rw [tl_get1]; exact ht3)⟩⟩
  unfold ref08_State_dropped
  simp only [List.append_assoc, List.cons_append, List.nil_append, List.length_append, List.length_cons, List.length_nil, Nat.zero_add]
  rw [ht]
  refine wp_seq _ (wp_rise st.sp.length (fun i y G => ∃ s, y = (s, (i : Int), ()) ∧ Em (H ++ t) ⟨some (H.length + 2, 0), 0, 0⟩ 3 G s (rowsOf ctP (((st.sp.take i).filter (offS id)).map rsp)) ∧ s.len = ((st.sp.take i).filter (offS id)).length)
    (fun x G => ∃ s, x = (s, ()) ∧ Em (H ++ t) ⟨some (H.length + 2, 0), 0, 0⟩ 3 G s (rowsOf ctP ((adrop st.sp id).map rsp)) ∧ s.len = (adrop st.sp id).length) ?_ ?_ ?_) ?_
  · rintro i y G hi ⟨s, rfl, hE, hn⟩
    exact wp_mono (dropped_step h ht0 (fun a ha => by have := hs0 a ha; omega) hi hE hn) fun r hr => by
      obtain ⟨r, G'⟩ := r
      cases r with
      | inl y => exact hr
      | inr x => exact hr.elim
  · rintro y G ⟨s, rfl, hE, hn⟩
    rw [List.take_length, show st.sp.filter (offS id) = adrop st.sp id from adrop_filter h.w.sp id] at hE hn
    obtain ⟨_, hbox⟩ := h.box t ht0 (fun a ha => by have := hs0 a ha; omega) hE
    have hv : rdSl 3 G H.length 0 = some v.1 := rdSl_of hbox rfl
    unfold ref08_State_dropped.s1
    exact wp_to hv (wp_f (decide_eq_false (by rw [h.spl]; exact Int.lt_irrefl _)) (wp_some ⟨s, rfl, hE, hn⟩))
  · exact ⟨_, rfl, h0, rfl⟩
  · rintro ⟨⟨s, ⟨⟩⟩, G⟩ ⟨s', hs, hE, hn⟩
    cases hs
    obtain ⟨hG, hbox⟩ := h.box t ht0 (fun a ha => by have := hs0 a ha; omega) hE
    have hres : G[H.length + 1]? = some (.cells [.sl 3 Sl.nil, .sl 3 Sl.nil, .sl 1 Sl.nil, .sl 2 Sl.nil] .exact) := hE.get (by rw [tl_get1]; exact ht2) fun o ho => by have := hs0 _ ho; simp only at this; omega
    have hw : wr G H.length 0 [.sl 3 s] = some (G.set H.length (.cells (vC (s, v.2.1, v.2.2.1, v.2.2.2.1, ())) .exact)) := by rw [wr1_of hbox (by decide) (by simp [vC])]; rfl
    have kf : Keep (fun b => b = H.length) G (G.set H.length (.cells (vC (s, v.2.1, v.2.2.1, v.2.2.2.1, ())) .exact)) := Keep.set _ _ _ rfl
    have hso : ∀ b o, s.p = some (b, o) → H.length + 2 ≤ b := fun b o hp => by
      rcases hE.o _ hp with hh | ⟨o', hh⟩
      · simp only [List.length_append] at hh; omega
      · have hh : some (H.length + 2, 0) = some (b, o') := hh
        cases hh; omega
    have hrow : Row (G.set H.length (.cells (vC (s, v.2.1, v.2.2.1, v.2.2.2.1, ())) .exact)) 3 v.2.1 (rowsOf ctL (st.lv.map rlv)) := hG.lv.keep kf fun b o hp e => by have := h.lv.lt hp; omega
    obtain ⟨sl, G2, w1, w2, w3, w4, w5⟩ := rf_without (v := (s, v.2.1, v.2.2.1, v.2.2.2.1, ())) hrow h.lvl (by omega) id (-1)
    rw [stay_off st.lv id (by decide)] at w2 w3
    have hbox1 : rd (G.set H.length (.cells (vC (s, v.2.1, v.2.2.1, v.2.2.2.1, ())) .exact)) (.agg [.sl 3, .sl 3, .sl 1, .sl 2]) H.length 0 = (some (s, v.2.1, v.2.2.1, v.2.2.2.1, ()) : Option RfV) := rd_agg_of (set_get (get_lt hbox)) (by simp [vC]) rfl
    have hlG : H.length + 3 ≤ G.length := by have := hE.k.len; simp only [List.length_append] at this; omega
    have hres2 : G2[H.length + 1]? = some (.cells [.sl 3 Sl.nil, .sl 3 Sl.nil, .sl 1 Sl.nil, .sl 2 Sl.nil] .exact) := by rw [w4.same _ (by simp only [List.length_set]; omega) fun hf => hf, set_get' (by omega)]; exact hres
    have hwr : wr G2 (H.length + 1) 0 [.sl 3 s, .sl 3 sl, .sl 1 v.2.2.1, .sl 2 v.2.2.2.1] = some (G2.set (H.length + 1) (.cells (vC (s, sl, v.2.2.1, v.2.2.2.1, ())) .exact)) := by
      rw [wr_of hres2 (by decide) (by simp)]; rfl
    have hrd : rd (G2.set (H.length + 1) (.cells (vC (s, sl, v.2.2.1, v.2.2.2.1, ())) .exact)) (.agg [.sl 3, .sl 3, .sl 1, .sl 2]) (H.length + 1) 0 = (some (s, sl, v.2.2.1, v.2.2.2.1, ()) : Option RfV) := rd_agg_of (set_get (get_lt hres2)) (by simp [vC]) rfl
    refine wp_to hw (wp_to hbox1 (wp_to w1 (wp_to hwr (wp_to hrd (wp_some ?_)))))
    have k1 : Keep (fun b => b = H.length ∨ b = H.length + 1) G (G2.set (H.length + 1) (.cells (vC (s, sl, v.2.2.1, v.2.2.2.1, ())) .exact)) :=
      ((kf.mono fun b e => .inl e).trans (w4.mono fun _ hf => hf.elim)).trans (Keep.set _ _ _ (.inr rfl))
    have hok : ∀ b, blkV (s, sl, v.2.2.1, v.2.2.2.1, ()) b → ¬ (b = H.length ∨ b = H.length + 1) ∧ (blkV v b ∨ H.length ≤ b) := fun b hb => by
      rcases hb with ⟨o, hb⟩ | ⟨o, hb⟩ | hb | hb
      · have := hso b o hb; exact ⟨by omega, .inr (by omega)⟩
      · have := w5 b o hb; simp only [List.length_set] at this; exact ⟨by omega, .inr (by omega)⟩
      · have hb' : blkV v b := .inr (.inr (.inl hb))
        have := h.lt hb'; exact ⟨by omega, .inl hb'⟩
      · have hb' : blkV v b := .inr (.inr (.inr hb))
        have := h.lt hb'; exact ⟨by omega, .inl hb'⟩
    have kl : Keep (fun b => b = H.length + 1) G2 (G2.set (H.length + 1) (.cells (vC (s, sl, v.2.2.1, v.2.2.2.1, ())) .exact)) := Keep.set _ _ _ rfl
    have hF := hG.keep k1 fun b hb e => by have := h.lt hb; omega
    refine ⟨⟨h.w.gone id, (Row.grown hE.g).keep k1 fun b o hp => (hok b (.inl ⟨o, hp⟩)).1, w2.keep kl fun b o hp e => (hok b (.inr (.inl ⟨o, hp⟩))).1 (.inr e), hF.bd, hF.wn, hn, w3, h.bdl, h.wnl⟩, ⟨?_, fun b hb _ => ?_⟩, fun b hb => (hok b hb).2⟩
    · exact Nat.le_trans (by omega) k1.len
    · refine (k1.same b (by omega) (by omega)).trans ?_
      rw [hE.k.same b (by simp only [List.length_append]; omega) fun ⟨o, ho⟩ => by have := hs0 _ ho; simp only at this; omega, List.getElem?_append_left hb]
end
end Ev

namespace Ev
open Go (IntKind)

def nilV : List C := [.sl 3 Sl.nil, .sl 3 Sl.nil, .sl 1 Sl.nil, .sl 2 Sl.nil]
structure DoM (H : Heap) (v : RfV) (st : Sta) (x : RecT) (G : Heap) : Prop where
  s : RfAt G v st
  k : Keep (fun _ => False) H G
  b0 : G[H.length]? = some (.cells (vC v) .exact)
  b1 : G[H.length + 1]? = some (recB x)
  b2 : G[H.length + 2]? = some (.cells nilV .exact)
  o : ∀ b, blkV v b → b < H.length
def DoQ (H : Heap) (v : RfV) (st : Sta) (x : RecT) (r : (RfV × Int × Unit) × Heap) : Prop := r.1.2.1 = (st.applyS x).1 ∧ RRes H v r.2 r.1.1 (st.applyS x).2
section
variable {H G : Heap} {v v' : RfV} {st st' : Sta} {x : RecT}
theorem DoM.keep (m : DoM H v st x G) {G' : Heap} (k : Keep (fun _ => False) G G') : DoM H v st x G' :=
  ⟨m.s.keep k fun _ _ hf => hf, m.k.trans k, k.get m.b0 fun hf => hf, k.get m.b1 fun hf => hf, k.get m.b2 fun hf => hf, m.o⟩
theorem DoM.rv (m : DoM H v st x G) : rd G (.agg [.sl 3, .sl 3, .sl 1, .sl 2]) H.length 0 = (some v : Option RfV) := rd_agg_of m.b0 (by simp [vC]) rfl
theorem DoM.x0 (m : DoM H v st x G) : rdI .i64 G (H.length + 1) 0 = some x.1 := rdI_of m.b1 rfl
theorem DoM.x1 (m : DoM H v st x G) : rdI .i64 G (H.length + 1) 1 = some x.2.1 := rdI_of m.b1 rfl
theorem DoM.x2 (m : DoM H v st x G) : rdI .i64 G (H.length + 1) 2 = some x.2.2.1 := rdI_of m.b1 rfl
theorem DoM.x3 (m : DoM H v st x G) : rdI .i64 G (H.length + 1) 3 = some x.2.2.2.1 := rdI_of m.b1 rfl
theorem DoM.x4 (m : DoM H v st x G) : rdI .i64 G (H.length + 1) 4 = some x.2.2.2.2.1 := rdI_of m.b1 rfl
theorem DoM.x5 (m : DoM H v st x G) : rdI .i64 G (H.length + 1) 5 = some x.2.2.2.2.2.1 := rdI_of m.b1 rfl
theorem DoM.sp (m : DoM H v st x G) : rdSl 3 G H.length 0 = some v.1 := rdSl_of m.b0 rfl
theorem DoM.lv (m : DoM H v st x G) : rdSl 3 G H.length 1 = some v.2.1 := rdSl_of m.b0 rfl
theorem RRes.refl (h : RfAt H v st) : RRes H v H v st := ⟨h, Keep.refl _ _, fun b hb => .inl hb⟩
/-- A state is told, with an error's number. -/
theorem ret_state {v0 : RfV} {B : Nat} (hs : RfAt G v' st') (hk : Keep (fun _ => False) H G) (hB : H.length ≤ B) {cs : List C} (hb : G[B]? = some (.cells cs .exact)) (hl : cs.length = 4) (hn : ∀ b, blkV v' b → (blkV v0 b ∨ H.length ≤ b) ∧ b ≠ B) {e : Int}
    {Q : (RfV × Int × Unit) × Heap → Prop} (hQ : ∀ G', RRes H v0 G' v' st' → Q ((v', e, ()), G')) :
    WP ((wr G B 0 [.sl 3 v'.1, .sl 3 v'.2.1, .sl 1 v'.2.2.1, .sl 2 v'.2.2.2.1]).bind fun (H57 : Heap) => Option.bind (α := RfV) (rd H57 (.agg [.sl 3, .sl 3, .sl 1, .sl 2]) B 0) fun v58 => some ((v58, e, ()), H57)) Q := by
  have hwr : wr G B 0 [.sl 3 v'.1, .sl 3 v'.2.1, .sl 1 v'.2.2.1, .sl 2 v'.2.2.2.1] = some (G.set B (.cells (vC v') .exact)) := by
    rw [wr_of hb (by decide) (by rw [hl]; exact Nat.le_refl 4)]
    obtain ⟨c0, c1, c2, c3, rfl⟩ : ∃ c0 c1 c2 c3, cs = [c0, c1, c2, c3] := by
      match cs, hl with
      | [c0, c1, c2, c3], _ => exact ⟨c0, c1, c2, c3, rfl⟩
    rfl
  have hrd : rd (G.set B (.cells (vC v') .exact)) (.agg [.sl 3, .sl 3, .sl 1, .sl 2]) B 0 = (some v' : Option RfV) := rd_agg_of (set_get (get_lt hb)) (by simp [vC]) rfl
  have kk : Keep (fun b => b = B) G (G.set B (.cells (vC v') .exact)) := Keep.set _ _ _ rfl
  refine wp_to hwr (wp_to hrd (wp_some (hQ _ ⟨hs.keep kk fun b hbb e => (hn b hbb).2 e, ⟨by have := hk.len; simp only [List.length_set]; omega, fun b hbb _ => ?_⟩, fun b hbb => (hn b hbb).1⟩)))
  rw [set_get' (by omega)]
  exact hk.same b hbb fun hf => hf
theorem DoM.ret (m : DoM H v st x G) {G' : Heap} (r : RRes G v G' v' st') {e : Int} (hx : st.applyS x = (e, st')) :
    WP ((wr G' (H.length + 2) 0 [.sl 3 v'.1, .sl 3 v'.2.1, .sl 1 v'.2.2.1, .sl 2 v'.2.2.2.1]).bind fun (H57 : Heap) => Option.bind (α := RfV) (rd H57 (.agg [.sl 3, .sl 3, .sl 1, .sl 2]) (H.length + 2) 0) fun v58 => some ((v58, e, ()), H57)) (DoQ H v st x) := by
  refine ret_state r.s (m.k.trans r.k) (by omega) (r.k.get m.b2 fun hf => hf) rfl (v0 := v) (fun b hb => ?_) fun G' hr => ?_
  · rcases r.n b hb with hh | hh
    · exact ⟨.inl hh, by have := m.o b hh; omega⟩
    · have := get_lt m.b2
      have := m.k.len
      exact ⟨.inr (by omega), by omega⟩
  · unfold DoQ
    rw [hx]
    exact ⟨rfl, hr⟩
theorem DoM.err (m : DoM H v st x G) {e : Int} (hx : st.applyS x = (e, st)) :
    WP (Option.bind (α := RfV) (rd G (.agg [.sl 3, .sl 3, .sl 1, .sl 2]) H.length 0) fun v15 => (wr G (H.length + 2) 0 [.sl 3 v15.1, .sl 3 v15.2.1, .sl 1 v15.2.2.1, .sl 2 v15.2.2.2.1]).bind fun (H57 : Heap) => Option.bind (α := RfV) (rd H57 (.agg [.sl 3, .sl 3, .sl 1, .sl 2]) (H.length + 2) 0) fun v58 => some ((v58, e, ()), H57)) (DoQ H v st x) :=
  wp_to m.rv (m.ret (RRes.refl m.s) hx)
theorem rf_begin (h : RfAt H v st) (x : RecT) : DoM H v st x (H ++ [.cells [.sl 3 v.1, .sl 3 v.2.1, .sl 1 v.2.2.1, .sl 2 v.2.2.2.1] .exact, .cells [.int .i64 x.1, .int .i64 x.2.1, .int .i64 x.2.2.1, .int .i64 x.2.2.2.1, .int .i64 x.2.2.2.2.1, .int .i64 x.2.2.2.2.2.1] .exact, .cells [.sl 3 Sl.nil, .sl 3 Sl.nil, .sl 1 Sl.nil, .sl 2 Sl.nil] .exact]) :=
  ⟨h.keep (Keep.app (fun _ => False) H _) fun _ _ hf => hf, Keep.app _ _ _, by rw [tl_get0]; rfl, by rw [tl_get1]; rfl, by rw [tl_get1]; rfl, fun b hb => h.lt hb⟩
theorem wp_tmp {β : Type} {a b c : Int} {K : Heap → Option β} {Q : β → Prop} (k : WP (K (G ++ [.cells [.int .i64 a, .int .i64 b, .int .i64 c] .exact])) Q) :
    WP ((wr (G ++ [.cells [.int .i64 0, .int .i64 0, .int .i64 0] .exact]) G.length 0 [.int .i64 a, .int .i64 b, .int .i64 c]).bind K) Q :=
  wp_to (by rw [wr_t0, wr_c0 _ _ _ _ (by simp)]; rfl) k
theorem wp_tmpB {β : Type} {a b : Int} {c : Bool} {K : Heap → Option β} {Q : β → Prop} (k : WP (K (G ++ [.cells [.int .i64 a, .int .i64 b, .bool c] .exact])) Q) :
    WP ((wr (G ++ [.cells [.int .i64 0, .int .i64 0, .bool false] .exact]) G.length 0 [.int .i64 a, .int .i64 b, .bool c]).bind K) Q :=
  wp_to (by rw [wr_t0, wr_c0 _ _ _ _ (by simp)]; rfl) k
theorem mv_snoc (f t : Int) (l : List (Int × Int)) (y : Int × Int) : mv f t (l ++ [y]) = mv f t l ++ [if y.2 = f then (y.1, t) else y] := by unfold mv; rw [List.map_append]; rfl
theorem mv_len (f t : Int) (l : List (Int × Int)) : (mv f t l).length = l.length := List.length_map _
theorem SaW.moved (w : SaW st) (f t : Int) : SaW ⟨st.sp, mv f t st.lv, st.bd, st.wn⟩ :=
  ⟨w.sp, mv_asc w.lv, w.bd, w.wn, fun y hy => by
    obtain ⟨z, hz, rfl⟩ := List.mem_map.1 hy
    have : (if z.2 = f then (z.1, t) else z).1 = z.1 := by split <;> rfl
    rw [this]; exact w.own z hz, w.ids, w.bds, w.wns⟩
/-- Leaves that are moved. -/
theorem do_move (m : DoM H v st x G) : WP (loopW (ref08_State_Do.s1 H (H ++ [.cells [.sl 3 v.1, .sl 3 v.2.1, .sl 1 v.2.2.1, .sl 2 v.2.2.2.1] .exact])) (⟨some (G.length, 0), 0, 0⟩, 0, ()) (G ++ [.cells [] .exact]))
    fun r => ∃ s, r.1 = (s, ()) ∧ Em (G ++ [.cells [] .exact]) ⟨some (G.length, 0), 0, 0⟩ 3 r.2 s (rowsOf ctL ((mv x.2.2.2.1 x.2.2.2.2.1 st.lv).map rlv)) ∧ s.len = st.lv.length := by
  have hH1 : (H ++ [Blk.cells [.sl 3 v.1, .sl 3 v.2.1, .sl 1 v.2.2.1, .sl 2 v.2.2.2.1] .exact]).length = H.length + 1 := by simp
  generalize H ++ [Blk.cells [.sl 3 v.1, .sl 3 v.2.1, .sl 1 v.2.2.1, .sl 2 v.2.2.2.1] .exact] = H1 at hH1
  have m0 := m.keep (Keep.app (fun _ => False) G [.cells [] .exact])
  have hmany := m.s.w.many
  have hoff : ∀ b o, (⟨some (G.length, 0), 0, 0⟩ : Sl).p = some (b, o) → b = G.length := fun b o hh => by cases hh; rfl
  have hst : ∀ {G' : Heap} {s : Sl} {cs : List C}, Em (G ++ [.cells [] .exact]) ⟨some (G.length, 0), 0, 0⟩ 3 G' s cs → RfAt G' v st ∧ G'[H.length]? = some (.cells (vC v) .exact) ∧ G'[H.length + 1]? = some (recB x) := fun hE => by
    have h1 := get_lt m.b0
    have h2 := get_lt m.b1
    refine ⟨m0.s.keep hE.k fun b hb ⟨o, ho⟩ => ?_, hE.get m0.b0 fun o ho => ?_, hE.get m0.b1 fun o ho => ?_⟩
    · have := hoff b o ho; have := m.o b hb; omega
    · have := hoff _ o ho; omega
    · have := hoff _ o ho; omega
  have h0 : Em (G ++ [.cells [] .exact]) ⟨some (G.length, 0), 0, 0⟩ 3 (G ++ [.cells [] .exact]) ⟨some (G.length, 0), 0, 0⟩ [] := Em.start ⟨rfl, rfl, fun hh => (by cases hh), fun a ha => by cases ha; exact ⟨rfl, .inr (by rw [tl_get0]; rfl)⟩⟩
  refine wp_mono (wp_rise st.lv.length (fun i y G' => ∃ s, y = (s, (i : Int), ()) ∧ Em (G ++ [.cells [] .exact]) ⟨some (G.length, 0), 0, 0⟩ 3 G' s (rowsOf ctL ((mv x.2.2.2.1 x.2.2.2.2.1 (st.lv.take i)).map rlv)) ∧ s.len = i)
    (fun y G' => ∃ s, y = (s, ()) ∧ Em (G ++ [.cells [] .exact]) ⟨some (G.length, 0), 0, 0⟩ 3 G' s (rowsOf ctL ((mv x.2.2.2.1 x.2.2.2.2.1 st.lv).map rlv)) ∧ s.len = st.lv.length) ?_ ?_ ?_) (fun r hr => hr)
  · rintro i y K hi ⟨s, rfl, hE, hn⟩
    obtain ⟨hK, hb0, hb1⟩ := hst hE
    have hlm : (st.lv.map rlv).length = st.lv.length := List.length_map _
    have hx : (st.lv.map rlv)[i]'(by omega) = rlv st.lv[i] := List.getElem_map _
    have hv : rdSl 3 K H.length 1 = some v.2.1 := rdSl_of hb0 rfl
    obtain ⟨b0, o0, r1, r2, _⟩ := Row.rd (cts := ctL) (rows := st.lv.map rlv) hK.lv (i := i) (by omega) (by decide)
    rw [hx] at r2
    rw [take_snoc hi, mv_snoc]
    generalize st.lv[i] = y at r2 ⊢
    have hb1' : (K ++ [Blk.cells [.int .i64 (y.1 / 1024), .int .i64 (y.1 % 1024), .int .i64 y.2] .exact])[H.length + 1]? = some (recB x) := by rw [List.getElem?_append_left (get_lt hb1)]; exact hb1
    have t0 : (K ++ [Blk.cells [.int .i64 (y.1 / 1024), .int .i64 (y.1 % 1024), .int .i64 y.2] .exact])[K.length]? = some (.cells [.int .i64 (y.1 / 1024), .int .i64 (y.1 % 1024), .int .i64 y.2] .exact) := by rw [tl_get0]; rfl
    have hw := wrap_succ (show i < 9223372036854775807 by omega)
    unfold ref08_State_Do.s1
    refine wp_to hv (wp_t (decide_eq_true (by rw [m.s.lvl]; exact Int.ofNat_lt.2 hi)) (wp_to hv (wp_to r1 (wp_to r2 (wp_tmp (wp_to (rdI_of t0 rfl) ?_))))))
    rw [hH1]
    refine wp_to (rdI_of hb1' rfl) (wp_if (p := y.2 = x.2.2.2.1) rfl (fun e => ?_) (fun e => ?_))
    · refine wp_to (rdI_of hb1' rfl) ?_
      have hw2 : wr (K ++ [Blk.cells [.int .i64 (y.1 / 1024), .int .i64 (y.1 % 1024), .int .i64 y.2] .exact]) K.length 2 [.int .i64 x.2.2.2.2.1] = some (K ++ [Blk.cells [.int .i64 (y.1 / 1024), .int .i64 (y.1 % 1024), .int .i64 x.2.2.2.2.1] .exact]) := by
        rw [wr_t0, wr_c0 _ _ _ _ (by simp)]; rfl
      refine wp_to hw2 (wp_to (rd3_of (cts := ctL) (x := (y.1 / 1024, y.1 % 1024, x.2.2.2.2.1, ())) (by rw [tl_get0]; rfl) rfl) ?_)
      refine wp_app (hE.push _) rfl (by decide) (by omega) fun s' G' hE' hn' => wp_some ⟨s', ?_, ?_, ?_⟩
      · simp only [hw]
      · rw [if_pos e, List.map_append, rowsOf_append']; exact hE'
      · rw [hn', hn]
    · refine wp_to (rd3_of (cts := ctL) (x := (y.1 / 1024, y.1 % 1024, y.2, ())) t0 rfl) ?_
      refine wp_app (hE.push _) rfl (by decide) (by omega) fun s' G' hE' hn' => wp_some ⟨s', ?_, ?_, ?_⟩
      · simp only [hw]
      · rw [if_neg e, List.map_append, rowsOf_append']; exact hE'
      · rw [hn', hn]
  · rintro y K ⟨s, rfl, hE, hn⟩
    rw [List.take_length] at hE
    obtain ⟨hK, hb0, hb1⟩ := hst hE
    have hv : rdSl 3 K H.length 1 = some v.2.1 := rdSl_of hb0 rfl
    unfold ref08_State_Do.s1
    exact wp_to hv (wp_f (decide_eq_false (by rw [m.s.lvl]; exact Int.lt_irrefl _)) (wp_some ⟨s, rfl, hE, hn⟩))
  · exact ⟨_, rfl, h0, rfl⟩
end
end Ev

namespace Ev
open Go (IntKind)

section
variable {H G K : Heap} {v v' w0 : RfV} {st st' : Sta} {x : RecT}
theorem DoM.set (m : DoM H v st x K) {B : Nat} (hB : H.length + 3 ≤ B) (z : Blk) : DoM H v st x (K.set B z) := by
  have kk : Keep (fun b => b = B) K (K.set B z) := Keep.set _ _ _ rfl
  exact ⟨m.s.keep kk fun b hb e => by have := m.o b hb; omega, ⟨by have := m.k.len; simp only [List.length_set]; omega, fun b hb _ => by rw [set_get' (by omega)]; exact m.k.same b hb fun hf => hf⟩,
    kk.get m.b0 (by omega), kk.get m.b1 (by omega), kk.get m.b2 (by omega), m.o⟩
theorem do_copy (m : DoM H v st x G) {to q : Int} (hto : x.2.2.2.2.1 = to) {s0 : Sta} (hs0 : s0 = ⟨ains st.sp to (q, false), st.lv, st.bd, st.wn⟩) (hw0 : RfAt G w0 s0) (hn0 : ∀ b, blkV w0 b → (blkV v b ∨ H.length + 3 ≤ b)) :
    WP (loopW (ref08_State_Do.s2 H (H ++ [.cells [.sl 3 v.1, .sl 3 v.2.1, .sl 1 v.2.2.1, .sl 2 v.2.2.2.1] .exact]) ((w0, ()), G)) (0, ()) (G ++ [.cells (vC w0) .exact]))
      fun r => ∃ w, DoM H v st x r.2 ∧ RfAt r.2 w ⟨ains st.sp to (q, false), insAll to st.lv (pgs st.lv x.2.1), st.bd, st.wn⟩ ∧ r.2[G.length]? = some (.cells (vC w) .exact) ∧ ∀ b, blkV w b → (blkV v b ∨ H.length + 3 ≤ b) ∧ b ≠ G.length := by
  have hH1 : (H ++ [Blk.cells [.sl 3 v.1, .sl 3 v.2.1, .sl 1 v.2.2.1, .sl 2 v.2.2.2.1] .exact]).length = H.length + 1 := by simp
  generalize H ++ [Blk.cells [.sl 3 v.1, .sl 3 v.2.1, .sl 1 v.2.2.1, .sl 2 v.2.2.2.1] .exact] = H1 at hH1
  have hBl : H.length + 3 ≤ G.length := by have := get_lt m.b2; omega
  have hmany := m.s.w.many
  refine wp_mono (wp_rise (step := ref08_State_Do.s2 H H1 ((w0, ()), G)) st.lv.length (fun i y K => y = ((i : Int), ()) ∧ ∃ w, DoM H v st x K ∧ RfAt K w ⟨ains st.sp to (q, false), insAll to st.lv (pgs (st.lv.take i) x.2.1), st.bd, st.wn⟩ ∧ K[G.length]? = some (.cells (vC w) .exact) ∧ ∀ b, blkV w b → (blkV v b ∨ H.length + 3 ≤ b) ∧ b ≠ G.length)
    (fun _ K => ∃ w, DoM H v st x K ∧ RfAt K w ⟨ains st.sp to (q, false), insAll to st.lv (pgs st.lv x.2.1), st.bd, st.wn⟩ ∧ K[G.length]? = some (.cells (vC w) .exact) ∧ ∀ b, blkV w b → (blkV v b ∨ H.length + 3 ≤ b) ∧ b ≠ G.length) ?_ ?_ ?_) (fun r hr => hr)
  · rintro i y K hi ⟨rfl, w, mK, hw, hB, hn⟩
    have hlm : (st.lv.map rlv).length = st.lv.length := List.length_map _
    have hx : (st.lv.map rlv)[i]'(by omega) = rlv st.lv[i] := List.getElem_map _
    obtain ⟨b0, o0, r1, r2, _⟩ := Row.rd (cts := ctL) (rows := st.lv.map rlv) mK.s.lv (i := i) (by omega) (by decide)
    rw [hx] at r2
    rw [pgs_take st.lv x.2.1 hi]
    generalize st.lv[i] = y at r2 ⊢
    have mK' := mK.keep (Keep.app (fun _ => False) K [.cells [.int .i64 (y.1 / 1024), .int .i64 (y.1 % 1024), .int .i64 y.2] .exact])
    have hw' := hw.keep (Keep.app (fun _ => False) K [.cells [.int .i64 (y.1 / 1024), .int .i64 (y.1 % 1024), .int .i64 y.2] .exact]) fun _ _ hf => hf
    have hB' : (K ++ [Blk.cells [.int .i64 (y.1 / 1024), .int .i64 (y.1 % 1024), .int .i64 y.2] .exact])[G.length]? = some (.cells (vC w) .exact) := by rw [List.getElem?_append_left (get_lt hB)]; exact hB
    have t0 : (K ++ [Blk.cells [.int .i64 (y.1 / 1024), .int .i64 (y.1 % 1024), .int .i64 y.2] .exact])[K.length]? = some (.cells [.int .i64 (y.1 / 1024), .int .i64 (y.1 % 1024), .int .i64 y.2] .exact) := by rw [tl_get0]; rfl
    have hwr := wrap_succ (show i < 9223372036854775807 by omega)
    unfold ref08_State_Do.s2
    refine wp_to mK.lv (wp_t (decide_eq_true (by rw [m.s.lvl]; exact Int.ofNat_lt.2 hi)) (wp_to mK.lv (wp_to r1 (wp_to r2 (wp_tmp (wp_to (rdI_of t0 rfl) ?_))))))
    rw [hH1]
    refine wp_to mK'.x1 (wp_if (p := y.1 / 1024 = x.2.1) rfl (fun e => ?_) (fun e => ?_))
    · have hrB : rd (K ++ [Blk.cells [.int .i64 (y.1 / 1024), .int .i64 (y.1 % 1024), .int .i64 y.2] .exact]) (.agg [.sl 3, .sl 3, .sl 1, .sl 2]) G.length 0 = (some w : Option RfV) := rd_agg_of hB' (by simp [vC]) rfl
      refine wp_to hrB (wp_to mK'.x4 (wp_to (rdI_of t0 rfl) (wp_to (rdI_of t0 rfl) ?_)))
      obtain ⟨w', K2, e1, e2⟩ := rf_with hw' (id := to) (p := y.1 % 1024) (pl := y.2) (by omega) (x := (q, false)) (by show afind (ains st.sp to (q, false)) to = _; rw [afind_ins m.s.w.sp, if_pos rfl])
      rw [hto]
      have hB2 := e2.k.get hB' fun hf => hf
      have hw2 : wr K2 G.length 0 [.sl 3 w'.1, .sl 3 w'.2.1, .sl 1 w'.2.2.1, .sl 2 w'.2.2.2.1] = some (K2.set G.length (.cells (vC w') .exact)) := by
        rw [wr_of hB2 (by decide) (by simp [vC])]; rfl
      have hn' : ∀ b, blkV w' b → (blkV v b ∨ H.length + 3 ≤ b) ∧ b ≠ G.length := fun b hb => (e2.n b hb).elim (hn b) fun hh => by
        have := get_lt hB'
        exact ⟨.inr (by omega), by omega⟩
      refine wp_to e1 (wp_to hw2 (wp_some ⟨?_, w', (mK'.keep e2.k).set hBl _, ?_, set_get (get_lt hB2), hn'⟩))
      · simp only [hwr]
      · rw [if_pos e, insAll_snoc]
        exact e2.s.keep (F := fun b => b = G.length) (Keep.set _ _ _ rfl) fun b hb => (hn' b hb).2
    · refine wp_some ⟨?_, w, mK', ?_, hB', hn⟩
      · simp only [hwr]
      · rw [if_neg e, List.append_nil]; exact hw'
  · rintro y K ⟨rfl, w, mK, hw, hB, hn⟩
    rw [List.take_length] at hw
    unfold ref08_State_Do.s2
    exact wp_to mK.lv (wp_f (decide_eq_false (by rw [m.s.lvl]; exact Int.lt_irrefl _)) (wp_some ⟨w, mK, hw, hB, hn⟩))
  · subst hs0
    have k0 := Keep.app (fun _ => False) G [.cells (vC w0) .exact]
    refine ⟨rfl, w0, m.keep k0, ?_, by rw [tl_get0]; rfl, fun b hb => ⟨hn0 b hb, ?_⟩⟩
    · exact hw0.keep k0 fun _ _ hf => hf
    · have := hw0.lt hb; omega
end
theorem ains_self {α : Type} {l : List (Int × α)} (h : Asc l) {k : Int} {v : α} (hv : afind l k = some v) : ains l k v = l :=
  asc_ext (h.ins _ _) h fun j => by
    rw [afind_ins h]
    split
    · rename_i e; rw [e, hv]
    · rfl
theorem worn_eq {l : List (Int × Int)} (h : Asc l) (k : Int) {n : Int} (hn : 0 ≤ n) {wn : List (Int × Int)} (h1 : (∀ x ∈ l, ¬ (x.1 = k ∧ n < x.2)) → wn = ains l k n) (h2 : (∃ x ∈ l, x.1 = k ∧ n < x.2) → wn = l) :
    wn = ains l k (if n > (afind l k).getD 0 then n else (afind l k).getD 0) := by
  cases hf : afind l k with
  | none =>
    rw [h1 fun x hx hh => by rw [show k = x.1 from hh.1.symm, h.find (v := x.2) hx] at hf; cases hf]
    show _ = ains l k (if n > 0 then n else 0)
    congr 1
    split <;> omega
  | some o =>
    show _ = ains l k (if n > o then n else o)
    by_cases e : n < o
    · rw [h2 ⟨_, afind_mem hf, rfl, e⟩, if_neg (by omega), ains_self h hf]
    · rw [h1 fun x hx hh => by
        rw [show k = x.1 from hh.1.symm, h.find (v := x.2) hx] at hf
        cases hf
        exact e hh.2]
      congr 1
      split <;> omega
section
variable {H G K : Heap} {v v' w0 : RfV} {st st' : Sta} {x : RecT}
/-- All that a record does. -/
theorem rf_Do (h : RfAt H v st) (g : x.1 ≠ 1 → GoodR x) (hn9 : x.1 = 9 → 0 ≤ x.2.2.2.2.2.1) : WP (ref08_State_Do v x H) (DoQ H v st x) := by
  have m := rf_begin h x
  have hH1 : (H ++ [Blk.cells [.sl 3 v.1, .sl 3 v.2.1, .sl 1 v.2.2.1, .sl 2 v.2.2.2.1] .exact]).length = H.length + 1 := by simp
  unfold ref08_State_Do
  simp only [List.append_assoc, List.cons_append, List.nil_append, List.length_append, List.length_cons, List.length_nil, Nat.zero_add]
  generalize H ++ [Blk.cells [.sl 3 v.1, .sl 3 v.2.1, .sl 1 v.2.2.1, .sl 2 v.2.2.2.1] .exact, .cells [.int .i64 x.1, .int .i64 x.2.1, .int .i64 x.2.2.1, .int .i64 x.2.2.2.1, .int .i64 x.2.2.2.2.1, .int .i64 x.2.2.2.2.2.1] .exact, .cells [.sl 3 Sl.nil, .sl 3 Sl.nil, .sl 1 Sl.nil, .sl 2 Sl.nil] .exact] = G0 at m ⊢
  obtain ⟨i0, f1, f2, f3⟩ := rf_find m.s x.2.1
  have m1 := m.keep (Keep.app (fun _ => False) G0 [.cells (vC v) .exact])
  obtain ⟨G1, g1, gk⟩ := rf_get m1.s x.2.1 x.2.2.1
  have m2 := m1.keep gk
  refine wp_to m.rv (wp_to m.x1 (wp_to f1 (wp_to m1.rv (wp_to m1.x1 (wp_to m1.x2 (wp_to g1 (wp_to m2.x0 ?_)))))))
  clear m m1 f1 g1 gk
  refine wp_if (p := x.1 = 3) rfl (fun k3 => ?_) (fun k3 => ?_)
  · have hap : st.applyS x = st.moveS x.2.2.2.1 x.2.2.2.2.1 := by unfold Sta.applyS; rw [if_neg (by omega), if_pos k3]
    unfold Sta.moveS at hap
    have q1 := rf_refs m2.s x.2.2.2.1
    have m3 := m2.keep (Keep.app (fun _ => False) G1 [.cells (vC v) .exact])
    refine wp_to m2.rv (wp_to m2.x3 (wp_to q1 (wp_if (p := cnt st.lv x.2.2.2.1 = 0) (decide_eq_decide.2 Int.natCast_eq_zero) (fun e => ?_) (fun e => ?_))))
    · rw [if_pos e] at hap
      exact m3.err hap
    · rw [if_neg e] at hap
      have q2 := rf_refs m3.s x.2.2.2.2.1
      have m4 := m3.keep (Keep.app (fun _ => False) _ [.cells (vC v) .exact])
      refine wp_to m3.rv (wp_to m3.x4 (wp_to q2 (wp_if (p := 0 < cnt st.lv x.2.2.2.2.1) (decide_eq_decide.2 Int.natCast_pos) (fun e => ?_) (fun e => ?_))))
      · rw [if_pos e] at hap
        exact m4.err hap
      · rw [if_neg e] at hap
        refine wp_seq _ (do_move m4) ?_
        generalize G1 ++ [Blk.cells (vC v) .exact] ++ [.cells (vC v) .exact] = G4 at m4 ⊢
        rintro ⟨⟨s, ⟨⟩⟩, G5⟩ ⟨s', hs, hE, hn⟩
        cases hs
        have h2 := get_lt m4.b2
        have hE : Em (G4 ++ [.cells [] .exact]) ⟨some (G4.length, 0), 0, 0⟩ 3 G5 s (rowsOf ctL ((mv x.2.2.2.1 x.2.2.2.2.1 st.lv).map rlv)) := hE
        have hoff : ∀ b o, (⟨some (G4.length, 0), 0, 0⟩ : Sl).p = some (b, o) → b = G4.length := fun b o hh => by cases hh; rfl
        have m5 := m4.keep (Keep.app (fun _ => False) G4 [.cells [] .exact])
        have s5 : RfAt G5 v st := m5.s.keep hE.k fun b hb ⟨o, ho⟩ => by have := hoff b o ho; have := m4.o b hb; omega
        have c0 : G5[H.length]? = some (.cells (vC v) .exact) := hE.get m5.b0 fun o ho => by have := hoff _ o ho; omega
        have c2 : G5[H.length + 2]? = some (.cells nilV .exact) := hE.get m5.b2 fun o ho => by have := hoff _ o ho; omega
        have hk5 : Keep (fun _ => False) H G5 := ⟨by have := m5.k.len; have := hE.k.len; omega, fun b hb _ => by
          rw [hE.k.same b (by have := m5.k.len; omega) fun ⟨o, ho⟩ => by have := hoff _ o ho; omega]
          exact m5.k.same b hb fun hf => hf⟩
        have hw : wr G5 H.length 1 [.sl 3 s] = some (G5.set H.length (.cells (vC (v.1, s, v.2.2.1, v.2.2.2.1, ())) .exact)) := by rw [wr1_of c0 (by decide) (by simp [vC])]; rfl
        have hrd : rd (G5.set H.length (.cells (vC (v.1, s, v.2.2.1, v.2.2.2.1, ())) .exact)) (.agg [.sl 3, .sl 3, .sl 1, .sl 2]) H.length 0 = (some (v.1, s, v.2.2.1, v.2.2.2.1, ()) : Option RfV) := rd_agg_of (set_get (get_lt c0)) (by simp [vC]) rfl
        have hso : ∀ b o, s.p = some (b, o) → G4.length ≤ b := fun b o hp => by
          rcases hE.o _ hp with hh | ⟨o', hh⟩
          · simp only [List.length_append] at hh; omega
          · have := hoff _ _ hh; simp only at this; omega
        have kf : Keep (fun b => b = H.length) G5 (G5.set H.length (.cells (vC (v.1, s, v.2.2.1, v.2.2.2.1, ())) .exact)) := Keep.set _ _ _ rfl
        have s6 := s5.keep kf fun b hb e => by have := m4.o b hb; omega
        refine wp_to hw (wp_to hrd (ret_state (v' := (v.1, s, v.2.2.1, v.2.2.2.1, ())) (st' := ⟨st.sp, mv x.2.2.2.1 x.2.2.2.2.1 st.lv, st.bd, st.wn⟩) (H := H) (v0 := v) (B := H.length + 2) ?_ ?_ (by omega) (kf.get c2 (by omega)) rfl (fun b hb => ?_) fun G' hr => ?_))
        · exact ⟨s5.w.moved _ _, s6.sp, (Row.grown hE.g).keep kf fun b o hp e => by have := hso b o hp; omega, s6.bd, s6.wn, s6.spl, by rw [hn, mv_len], s6.bdl, s6.wnl⟩
        · exact ⟨by have := hk5.len; simp only [List.length_set]; omega, fun b hb _ => by rw [set_get' (by omega)]; exact hk5.same b hb fun hf => hf⟩
        · rcases hb with hb | ⟨o, ho⟩ | hb | hb
          · have hb' : blkV v b := .inl hb
            have := m4.o b hb'; exact ⟨.inl hb', by omega⟩
          · have := hso b o ho
            exact ⟨.inr (by omega), by omega⟩
          · have hb' : blkV v b := .inr (.inr (.inl hb))
            have := m4.o b hb'; exact ⟨.inl hb', by omega⟩
          · have hb' : blkV v b := .inr (.inr (.inr hb))
            have := m4.o b hb'; exact ⟨.inl hb', by omega⟩
        · unfold DoQ
          rw [hap]
          exact ⟨rfl, hr⟩
  refine wp_if (p := x.1 = 4) rfl (fun k4 => ?_) (fun k4 => ?_)
  · have hap : st.applyS x = st.openS x.2.1 x.2.2.2.2.2.1 [] := by unfold Sta.applyS; rw [if_pos k4]
    unfold Sta.openS at hap
    cases hf : afind st.sp x.2.1 with
    | some y =>
      obtain ⟨j, rfl, _⟩ := f3 y hf
      rw [hf, if_pos (show (some y).isSome = true from rfl)] at hap
      exact wp_t (decide_eq_true (Int.natCast_nonneg _)) (m2.err hap)
    | none =>
      rw [f2 hf]
      rw [hf, if_neg (by decide)] at hap
      refine wp_f rfl (wp_to m2.rv (wp_to m2.x1 (wp_to m2.x5 ?_)))
      exact wp_seq _ (rf_made m2.s false ((g (by omega)).k4 k4).1 ((g (by omega)).k4 k4).2) fun r hr => m2.ret hr hap
  refine wp_if (p := x.1 = 8) rfl (fun k8 => ?_) (fun k8 => ?_)
  · have hap : st.applyS x = (0, ⟨st.sp, st.lv, ains st.bd x.2.2.2.1 (), st.wn⟩) := by unfold Sta.applyS; rw [if_neg k4, if_neg k3, if_pos k8]
    refine wp_to m2.rv (wp_to m2.x3 (wp_seq _ (rf_bad m2.s ((g (by omega)).k8 k8)) fun r hr => m2.ret hr hap))
  refine wp_if (p := x.1 = 9) rfl (fun k9 => ?_) (fun k9 => ?_)
  · refine wp_to m2.rv (wp_to m2.x3 (wp_to m2.x5 (wp_seq _ (rf_worn m2.s ((g (by omega)).k9 k9)) fun r ⟨wn, h1, h2, hr⟩ => m2.ret hr ?_)))
    unfold Sta.applyS
    rw [if_neg k4, if_neg k3, if_neg k8, if_pos k9, worn_eq h.w.wn _ (hn9 k9) h1 h2]
  have hap0 := show st.applyS x = _ by unfold Sta.applyS; rw [if_neg k4, if_neg k3, if_neg k8, if_neg k9]
  cases hf : afind st.sp x.2.1 with
  | none =>
    rw [hf] at hap0
    rw [f2 hf]
    exact wp_t rfl (m2.err hap0)
  | some y =>
    obtain ⟨j, rfl, hj, hje⟩ := f3 y hf
    rw [hf] at hap0
    simp only at hap0
    have hlm : (st.sp.map rsp).length = st.sp.length := List.length_map _
    have hx : (st.sp.map rsp)[j]'(by omega) = rsp st.sp[j] := List.getElem_map _
    obtain ⟨b0, o0, r1, r2, _⟩ := Row.rd (cts := ctP) (rows := st.sp.map rsp) m2.s.sp (i := j) (by omega) (by decide)
    rw [hx, hje] at r2
    have hid := h.w.ids _ (afind_mem hf)
    have r2 : rd G1 (.agg [.int .i64, .int .i64, .bool]) b0 o0 = (some (x.2.1, y.1, y.2, ()) : Option (Int × Int × Bool × Unit)) := r2
    refine wp_f (decide_eq_false (Int.not_lt.2 (Int.natCast_nonneg _))) (wp_to m2.sp (wp_to r1 (wp_to r2 (wp_tmpB ?_))))
    have m3 := m2.keep (Keep.app (fun _ => False) G1 [.cells [.int .i64 x.2.1, .int .i64 y.1, .bool y.2] .exact])
    have t0 : (G1 ++ [Blk.cells [.int .i64 x.2.1, .int .i64 y.1, .bool y.2] .exact])[G1.length]? = some (.cells [.int .i64 x.2.1, .int .i64 y.1, .bool y.2] .exact) := by rw [tl_get0]; rfl
    refine wp_to m3.x0 (wp_if (p := x.1 = 1) rfl (fun k1 => ?_) (fun k1 => ?_))
    · rw [if_pos k1] at hap0
      refine wp_to m3.x2 (wp_if (p := x.2.2.1 < 0) rfl (fun e => ?_) (fun e => ?_))
      · rw [if_pos e] at hap0
        exact m3.err hap0
      · rw [if_neg e] at hap0
        refine wp_to m3.x2 (wp_to (rdI_of t0 rfl) (wp_if (p := y.1 ≤ x.2.2.1) rfl (fun e2 => ?_) (fun e2 => ?_)))
        · rw [if_pos e2] at hap0
          exact m3.err hap0
        · rw [if_neg e2] at hap0
          obtain ⟨w', K, u1, u2⟩ := rf_with m3.s (id := x.2.1) (p := x.2.2.1) (pl := x.2.2.2.1) (by have := hid.2.2; simp only at this; omega) hf
          exact wp_to m3.rv (wp_to m3.x1 (wp_to m3.x2 (wp_to m3.x3 (wp_to u1 (m3.ret u2 hap0)))))
    · rw [if_neg k1] at hap0
      refine wp_if (p := x.1 = 2) rfl (fun k2 => ?_) (fun k2 => ?_)
      · rw [if_pos k2] at hap0
        refine wp_c (fun e => ?_) (fun e => ?_)
        · have e : ¬ (afind (pgs st.lv x.2.1) x.2.2.1).isSome = true := by simpa using e
          rw [if_neg e] at hap0
          exact m3.err hap0
        · have e : (afind (pgs st.lv x.2.1) x.2.2.1).isSome = true := by simpa using e
          rw [if_pos e] at hap0
          have hp : 0 ≤ x.2.2.1 ∧ x.2.2.1 < 1024 := by
            rw [pgs_find h.w.lv] at e
            by_cases hp : 0 ≤ x.2.2.1 ∧ x.2.2.1 < 1024
            · exact hp
            · rw [if_neg hp] at e; cases e
          exact wp_to m3.rv (wp_to m3.x1 (wp_to m3.x2 (wp_seq _ (rf_trim m3.s x.2.1 hp) fun r hr => m3.ret hr hap0)))
      · rw [if_neg k2] at hap0
        refine wp_if (p := x.1 = 5) rfl (fun k5 => ?_) (fun k5 => ?_)
        · rw [if_pos k5] at hap0
          exact wp_to m3.rv (wp_to m3.x1 (wp_seq _ (rf_dropped m3.s x.2.1) fun r hr => m3.ret hr hap0))
        · rw [if_neg k5] at hap0
          refine wp_if (p := x.1 = 6) rfl (fun k6 => ?_) (fun k6 => ?_)
          · rw [if_pos k6] at hap0
            unfold Sta.openS at hap0
            obtain ⟨i1, q1, q2, q3⟩ := rf_find m3.s x.2.2.2.2.1
            have m4 := m3.keep (Keep.app (fun _ => False) _ [.cells (vC v) .exact])
            refine wp_to m3.rv (wp_to m3.x4 (wp_to q1 ?_))
            cases hf2 : afind st.sp x.2.2.2.2.1 with
            | some z =>
              obtain ⟨j2, rfl, _⟩ := q3 z hf2
              rw [hf2, if_pos (show (some z).isSome = true from rfl)] at hap0
              exact wp_t (decide_eq_true (Int.natCast_nonneg _)) (m4.err hap0)
            | none =>
              rw [q2 hf2]
              rw [hf2, if_neg (by decide)] at hap0
              have t1 : (G1 ++ [Blk.cells [.int .i64 x.2.1, .int .i64 y.1, .bool y.2] .exact] ++ [.cells (vC v) .exact])[G1.length]? = some (.cells [.int .i64 x.2.1, .int .i64 y.1, .bool y.2] .exact) := by rw [List.getElem?_append_left (get_lt t0)]; exact t0
              refine wp_f rfl (wp_to m4.rv (wp_to m4.x4 (wp_to (rdI_of t1 rfl) (wp_seq _ (rf_made m4.s false ((g (by omega)).k6 k6) hid.2.2) ?_))))
              rintro ⟨⟨w0, ⟨⟩⟩, G5⟩ hr
              have hr : RRes _ v G5 w0 ⟨ains st.sp x.2.2.2.2.1 (y.1, false), st.lv, st.bd, st.wn⟩ := hr
              have m5 := m4.keep hr.k
              have hw : wr (G5 ++ [Blk.cells [.sl 3 Sl.nil, .sl 3 Sl.nil, .sl 1 Sl.nil, .sl 2 Sl.nil] .exact]) G5.length 0 [.sl 3 w0.1, .sl 3 w0.2.1, .sl 1 w0.2.2.1, .sl 2 w0.2.2.2.1] = some (G5 ++ [.cells (vC w0) .exact]) := by
                rw [wr_t0, wr_c0 _ _ _ _ (by simp)]; rfl
              refine wp_to hw (wp_seq _ (do_copy m5 rfl rfl hr.s fun b hb => (hr.n b hb).imp_right fun hh => ?_) ?_)
              · have := get_lt m4.b2; omega
              rintro ⟨⟨⟩, G6⟩ ⟨w, m6, hw6, hB6, hn6⟩
              have hrd : rd G6 (.agg [.sl 3, .sl 3, .sl 1, .sl 2]) G5.length 0 = (some w : Option RfV) := rd_agg_of hB6 (by simp [vC]) rfl
              refine wp_to hrd (ret_state (v0 := v) (H := H) (B := H.length + 2) hw6 m6.k (by omega) m6.b2 rfl (fun b hb => ?_) fun G' hr' => ?_)
              · rcases (hn6 b hb).1 with hh | hh
                · have := m6.o b hh; exact ⟨.inl hh, by omega⟩
                · exact ⟨.inr (by omega), by omega⟩
              · unfold DoQ
                rw [hap0]
                exact ⟨rfl, hr'⟩
          · rw [if_neg k6] at hap0
            exact wp_to m3.rv (wp_to (rdI_of t0 rfl) (wp_to (rdI_of t0 rfl) (wp_seq _ (rf_made m3.s true ⟨hid.1, hid.2.1⟩ hid.2.2) fun r hr => m3.ret hr hap0)))
end
end Ev

namespace Ev
open Go (IntKind)

section
variable {H G K : Heap} {v v' w0 : RfV} {st st' : Sta} {x : RecT}
theorem DoM.rx (m : DoM H v st x G) : rd G (.agg [.int .i64, .int .i64, .int .i64, .int .i64, .int .i64, .int .i64]) (H.length + 1) 0 = (some x : Option RecT) := rd_agg_of m.b1 (by simp) (by obtain ⟨a, b, c, d, e, f, ⟨⟩⟩ := x; rfl)
theorem chk_nine {x : RecT} (h : chkR x = true) (k9 : x.1 = 9) : 0 ≤ x.2.2.2.2.2.1 := by
  unfold chkR at h
  simp only [k9, inAll, inB] at h
  simp at h
  omega
end
end Ev

namespace Ev
open Go (IntKind)

theorem each_rows {S : Type} {step : Int → S → Heap → Option (S × Heap)} {m : Nat} {H : Heap} {ks : List Int} {hd : Nat × Nat} (hk : mkeys H (some m) = some ks) (hh : mhead H (some m) = some hd) (hnd : ks.Nodup) (hm : m < H.length)
    {L : Nat} (hL : L < H.length) (hLm : L ≠ m) (c : List Int → Blk) (h0 : H[L]? = some (c [])) (len : Int → Nat) (R : Int → List Blk) (hR : ∀ k, (R k).length = len k) (st : List Int → S)
    (hc : ∀ l, l.Perm ks → c l = c ks ∧ st l = st ks) (hcr : ∀ (π : Nat → Nat) l, (c l).ren π = c l) (hRr : ∀ π : Nat → Nat, (∀ b, b < H.length → π b = b) → ∀ k ∈ ks, ∀ x ∈ R k, x.ren π = x)
    (hs : ∀ (l : List Int) (k : Int), (∀ x ∈ l, x ∈ ks) → l.Nodup → k ∈ ks → k ∉ l → ∀ G : Heap, G[L]? = some (c l) → (∀ b, b < H.length → b ≠ L → G[b]? = H[b]?) → H.length ≤ G.length → step k (st l) G = some (st (l ++ [k]), G.set L (c (l ++ [k])) ++ R k)) :
    eachW step (some m) (st []) H = some (st ks, H.set L (c ks) ++ rowsK R ks) := by
  let F : List Int → Heap := fun l => H.set L (c l) ++ rowsK R l
  have hF : ∀ l, F l = H.set L (c l) ++ rowsK R l := fun _ => rfl
  have hlow : ∀ l b, b < H.length → b ≠ L → (F l)[b]? = H[b]? := fun l b hb hbL => by rw [hF, List.getElem?_append_left (by simpa using hb), set_get' (Ne.symm hbL)]
  have hFL : ∀ l, (F l)[L]? = some (c l) := fun l => by rw [hF, List.getElem?_append_left (by simpa using hL), set_get hL]
  refine eachW_of (ks := ks) hk hh hnd st F rfl ?_ (fun l k hl hn hk hkl => ⟨?_, ?_⟩) (fun l hl => ⟨(hc l hl).2, ?_⟩)
  · rw [hF, set_same h0]
    exact List.append_nil _
  · rw [hs l k hl hn hk hkl (F l) (hFL l) (hlow l) (by rw [hF, List.length_append, List.length_set]; omega), hF, hF, rowsK_snoc, List.set_append_left _ _ (by simpa using hL), List.set_set, List.append_assoc]
  · rw [← hh]
    have : (F (l ++ [k])).mpAt m = H.mpAt m := by unfold Heap.mpAt; rw [hlow _ _ hm (Ne.symm hLm)]
    simp only [mhead, Option.bind_some, this]
  · refine alike_rows len hl (hl.nodup_iff.2 hnd) (List.length_set ..) (List.length_set ..) _ _ (rowsK_len _ _ hR _) (rowsK_len _ _ hR _) (fun b hb => ?_) (fun k hk j hj => ?_)
    · by_cases e : b = L
      · subst e
        left
        rw [set_get hb, set_get hb, Option.map_some, hcr, (hc l hl).1]
      · right
        rw [set_get' (Ne.symm e), set_get' (Ne.symm e)]
        exact ⟨rfl, rfl⟩
    · rw [rowsK_get _ _ hR (hl.subset hk) hj, rowsK_get _ _ hR hk hj]
      cases hx : (R k)[j]? with
      | none => rfl
      | some x =>
        rw [Option.map_some, hRr _ (fun b hb => kren_low _ hb) k (hl.subset hk) x (List.mem_of_getElem? hx)]
/-- Numbers that occur. -/
def dst (ns : List Int) : List (Int × Unit) := ns.foldl (fun d n => ains d n ()) []
theorem dst_snoc (ns : List Int) (n : Int) : dst (ns ++ [n]) = ains (dst ns) n () := by unfold dst; rw [List.foldl_append]; rfl
theorem dst_asc (ns : List Int) : Asc (dst ns) := by
  unfold dst
  have : ∀ (ns : List Int) (d : List (Int × Unit)), Asc d → Asc (ns.foldl (fun d n => ains d n ()) d) := fun ns => by
    induction ns with
    | nil => exact fun d h => h
    | cons n ns ih => exact fun d h => ih _ (h.ins _ _)
  exact this ns [] Asc.nil
theorem dst_find (ns : List Int) (k : Int) : afind (dst ns) k = if k ∈ ns then some () else none := by
  have : ∀ (ns : List Int) (d : List (Int × Unit)), Asc d → afind (ns.foldl (fun d n => ains d n ()) d) k = if k ∈ ns then some () else afind d k := fun ns => by
    induction ns with
    | nil => exact fun d h => by rw [if_neg List.not_mem_nil]; rfl
    | cons n ns ih =>
      intro d h
      rw [List.foldl_cons, ih _ (h.ins _ _), afind_ins h]
      by_cases e1 : k ∈ ns
      · rw [if_pos e1, if_pos (List.mem_cons_of_mem _ e1)]
      · rw [if_neg e1]
        by_cases e2 : k = n
        · rw [if_pos e2, if_pos (by rw [e2]; simp)]
        · rw [if_neg e2, if_neg (fun hh => (List.mem_cons.1 hh).elim e2 e1)]
  exact this ns [] Asc.nil
theorem dst_eq {ns ns' : List Int} (h : ∀ k, k ∈ ns ↔ k ∈ ns') : dst ns = dst ns' := asc_ext (dst_asc _) (dst_asc _) fun k => by
  rw [dst_find, dst_find]
  by_cases e : k ∈ ns
  · rw [if_pos e, if_pos ((h k).1 e)]
  · rw [if_neg e, if_neg (fun hh => e ((h k).2 hh))]
theorem bo_ren (π : Nat → Nat) (l : List (Int × Unit)) (dc : Nat) : Blk.ren π (.mp (encA boW l) dc) = .mp (encA boW l) dc := by
  show Blk.mp ((encA boW l).map fun e => (e.1, e.2.ren π)) dc = _
  unfold encA
  rw [List.map_map]
  congr 1
end Ev

namespace Ev
open Go (IntKind)

/-- What stands at a place: what the page says, its own number. -/
abbrev LfF := Int → Bytes × Int
def lfW (f : LfF) : Int → Int → W := fun _ v => .agg [.str (f v).1, .int .i64 (f v).2]
structure TrAt (H : Heap) (m : Nat) (pg : Int → Nat) (f : LfF) (st : Sta) : Prop where
  w : SaW st
  sp : MpA H m (spW pg) st.sp
  pp : ∀ id x, afind st.sp id = some x → MpA H (pg id) (lfW f) (pgs st.lv id)
  pn : ∀ id x, afind st.sp id = some x → pg id ≠ m
  pi : ∀ id x id' x', afind st.sp id = some x → afind st.sp id' = some x' → pg id = pg id' → id = id'
def trF (m : Nat) (pg : Int → Nat) (st : Sta) (b : Nat) : Prop := b = m ∨ ∃ id x, afind st.sp id = some x ∧ b = pg id
section
variable {H G : Heap} {m : Nat} {pg : Int → Nat} {f f' : LfF} {st : Sta}
theorem TrAt.keep (h : TrAt H m pg f st) {F : Nat → Prop} (k : Keep F H G) (hF : ∀ b, trF m pg st b → ¬ F b) : TrAt G m pg f st :=
  ⟨h.w, h.sp.keep k (hF _ (.inl rfl)), fun id x hx => (h.pp id x hx).keep k (hF _ (.inr ⟨id, x, hx, rfl⟩)), h.pn, h.pi⟩
theorem TrAt.lt (h : TrAt H m pg f st) {b : Nat} (hb : trF m pg st b) : b < H.length := by
  rcases hb with rfl | ⟨id, x, hx, rfl⟩
  · exact h.sp.lt
  · exact (h.pp id x hx).lt
theorem TrAt.congr (h : TrAt H m pg f st) (hf : ∀ x ∈ st.lv, f x.2 = f' x.2) : TrAt H m pg f' st :=
  ⟨h.w, h.sp, fun id x hx => by
    obtain ⟨dc, hd⟩ := h.pp id x hx
    refine ⟨dc, ?_⟩
    rw [hd, enc_congr (f := lfW f) (g := lfW f') fun y hy => by
      have := hf _ (pgs_mem hy).2.2
      unfold lfW
      rw [show f y.2 = f' y.2 from this]], h.pn, h.pi⟩
/-- A copy of a tree. -/
theorem tr_clone (h : TrAt H m pg f st) : WP (model_tree_clone (some m) H) fun r => ∃ m' pg', r.1 = (some m', ()) ∧ TrAt r.2 m' pg' f st ∧ Keep (fun _ => False) H r.2 ∧ ∀ b, trF m' pg' st b → H.length ≤ b := by
  have k0 := Keep.app (fun _ => False) H [.mp [] 0, .dead]
  have h0 := h.keep k0 fun _ _ hf => hf
  have g0 : (H ++ [Blk.mp [] 0, .dead])[H.length]? = some (.mp [] 0) := by rw [tl_get0]; rfl
  have hl : (H ++ [Blk.mp [] 0, .dead]).length = H.length + 2 := by simp
  have hml := h.lt (.inl rfl)
  have e0 : H ++ [Blk.mp [] 0] ++ [.dead] = H ++ [.mp [] 0, .dead] := by simp
  obtain ⟨G, pg', e1, e2, e3, e4, e5, e6⟩ := clone_loop (g := lfW f) (fun _ _ _ => rfl) h.w.sp (P := fun id => pgs st.lv id) h0.sp h0.pp g0 (show m ≠ H.length by omega) (fun id x hx => by have := h.lt (.inr ⟨id, x, hx, rfl⟩); omega)
    (step := model_tree_clone.s1 (some m) H)
    (fun k x G hx hm hp hlow hlen => by
      have hm1 : mat G (.agg [.int .i64, .bool, .mp]) (some m) k = (some (x.1, x.2, some (pg k), ()) : Option (Int × Bool × Option Nat × Unit)) := hm.mat (.agg [.int .i64, .bool, .mp]) k (by rw [hx]; rfl)
      have hcl := (hp.keep (F := fun _ => False) (Keep.push _ G (.cells [.int .i64 x.1, .bool x.2, .mp (some (pg k))] .exact)) fun hf => hf).clone
      unfold model_tree_clone.s1
      refine (bind_to hm1).trans ?_
      simp only [Option.bind_some, Option.map_some, cond_true, cond_false, List.append_assoc, List.cons_append, List.nil_append, List.length_append, List.length_cons, List.length_nil, Nat.zero_add, rd_t0, rd_t1, rdI_t0, rdI_t1, rdB_t0, rdB_t1, rdM_t0, rdM_t1, rd_c1, rdI_c1, rdB_c1, rdM_c1, rdI_c0, rdB_c0, rdM_c0, wr_t0, wr_t1, wr_c0, wr_c1, setL, List.set, List.getElem?_cons_zero, List.getElem?_cons_succ, un_i, un_b, un_m, un_s, un_sl1, un_sl2, un_sl3, Nat.le_refl, rd_iiib, rd_iiiiii, rd_ibm, rd_iii, rd_iib, rd_ii, rd_3312, rd_iiii, rd_si, rd_33121, rd_33121i, slRow_t0, slRow_t1, sl_c0, sl_c1] at hcl ⊢
      simp only [hcl, Option.bind_some, Option.map_some, cond_true, cond_false, List.append_assoc, List.cons_append, List.nil_append, List.length_append, List.length_cons, List.length_nil, Nat.zero_add, rd_t0, rd_t1, rdI_t0, rdI_t1, rdB_t0, rdB_t1, rdM_t0, rdM_t1, rd_c1, rdI_c1, rdB_c1, rdM_c1, rdI_c0, rdB_c0, rdM_c0, wr_t0, wr_t1, wr_c0, wr_c1, setL, List.set, List.getElem?_cons_zero, List.getElem?_cons_succ, un_i, un_b, un_m, un_s, un_sl1, un_sl2, un_sl3, Nat.le_refl, rd_iiib, rd_iiiiii, rd_ibm, rd_iii, rd_iib, rd_ii, rd_3312, rd_iiii, rd_si, rd_33121, rd_33121i, slRow_t0, slRow_t1, sl_c0, sl_c1])
  unfold model_tree_clone
  simp only
  rw [e0]
  refine wp_to e1 (wp_some ⟨H.length, pg', rfl, ⟨h.w, e4, fun id x hx => (e5 id x hx).1, fun id x hx => ?_, e6⟩, ⟨by simp only; omega, fun b hb _ => ?_⟩, ?_⟩)
  · have := (e5 id x hx).2; omega
  · simp only
    rw [e2 b (by omega) (by omega)]
    exact List.getElem?_append_left hb
  · rintro b (rfl | ⟨id, x, hx, rfl⟩)
    · exact Nat.le_refl _
    · have := (e5 id x hx).2; omega
theorem MpA.leaf {b : Nat} {l : List (Int × Int)} (h : MpA H b (lfW f) l) (k : Int) : mget H (.agg [.str, .int .i64]) (.agg [.str [], .int .i64 0]) (some b) k = (some ((match afind l k with | none => ([], 0, ()) | some v => ((f v).1, (f v).2, ())), (afind l k).isSome) : Option ((Bytes × Int × Unit) × Bool)) := by
  refine h.get _ _ _ ?_
  cases afind l k <;> rfl
/-- May a space be changed? -/
def mayS (st : Sta) (id : Int) : Int := match afind st.sp id with | none => 80 | some x => if x.2 = true then 170 else 0
theorem tr_may (h : TrAt H m pg f st) (id : Int) : WP (model_tree_may (some m) id H) fun r => r.1.1 = mayS st id ∧ Keep (fun _ => False) H r.2 := by
  unfold model_tree_may mayS
  refine wp_to (h.sp.space id) ?_
  cases hx : afind st.sp id with
  | none =>
    refine wp_to (v := H ++ [.cells [.int .i64 0, .bool false, .mp none] .exact]) (by simp only [Option.bind_some, Option.map_some, cond_true, cond_false, List.append_assoc, List.cons_append, List.nil_append, List.length_append, List.length_cons, List.length_nil, Nat.zero_add, rd_t0, rd_t1, rdI_t0, rdI_t1, rdB_t0, rdB_t1, rdM_t0, rdM_t1, rd_c1, rdI_c1, rdB_c1, rdM_c1, rdI_c0, rdB_c0, rdM_c0, wr_t0, wr_t1, wr_c0, wr_c1, setL, List.set, List.getElem?_cons_zero, List.getElem?_cons_succ, un_i, un_b, un_m, un_s, un_sl1, un_sl2, un_sl3, Nat.le_refl, rd_iiib, rd_iiiiii, rd_ibm, rd_iii, rd_iib, rd_ii, rd_3312, rd_iiii, rd_si, rd_33121, rd_33121i, slRow_t0, slRow_t1, sl_c0, sl_c1, spV]) (wp_t rfl (wp_some ⟨rfl, Keep.app _ _ _⟩))
  | some x =>
    have t0 : (H ++ [Blk.cells [.int .i64 x.1, .bool x.2, .mp (some (pg id))] .exact])[H.length]? = some (.cells [.int .i64 x.1, .bool x.2, .mp (some (pg id))] .exact) := by rw [tl_get0]; rfl
    refine wp_to (v := H ++ [.cells [.int .i64 x.1, .bool x.2, .mp (some (pg id))] .exact]) (by simp only [Option.bind_some, Option.map_some, cond_true, cond_false, List.append_assoc, List.cons_append, List.nil_append, List.length_append, List.length_cons, List.length_nil, Nat.zero_add, rd_t0, rd_t1, rdI_t0, rdI_t1, rdB_t0, rdB_t1, rdM_t0, rdM_t1, rd_c1, rdI_c1, rdB_c1, rdM_c1, rdI_c0, rdB_c0, rdM_c0, wr_t0, wr_t1, wr_c0, wr_c1, setL, List.set, List.getElem?_cons_zero, List.getElem?_cons_succ, un_i, un_b, un_m, un_s, un_sl1, un_sl2, un_sl3, Nat.le_refl, rd_iiib, rd_iiiiii, rd_ibm, rd_iii, rd_iib, rd_ii, rd_3312, rd_iiii, rd_si, rd_33121, rd_33121i, slRow_t0, slRow_t1, sl_c0, sl_c1, spV]) (wp_f rfl (wp_to (rdB_of t0 rfl) ?_))
    refine wp_c (fun e => wp_some ⟨?_, Keep.app _ _ _⟩) (fun e => wp_some ⟨?_, Keep.app _ _ _⟩)
    · simp only [if_pos (show x.2 = true from e)]
    · simp only [if_neg (show ¬ x.2 = true by rw [e]; decide)]
/-- The numbers of a space's leaves. -/
def nsL (f : LfF) (P : List (Int × Int)) : List Int := P.map fun y => (f y.2).2
def fitR (f : LfF) (P : List (Int × Int)) (k : Int) : List Blk := [.cells [.str (f ((afind P k).getD 0)).1, .int .i64 (f ((afind P k).getD 0)).2] .exact]
theorem fits_inner {P : List (Int × Int)} {pgb L : Nat} {H1 : Heap} (hp : MpA G pgb (lfW f) P) (hP : Asc P) (hL1 : H1.length = L) (hne : L ≠ pgb) (base : List Int) (hL : G[L]? = some (.mp (encA boW (dst base)) 0)) :
    eachW (model_tree_fits.s1 H1 (some pgb)) (some pgb) () G = some ((), G.set L (.mp (encA boW (dst (base ++ nsL f P))) 0) ++ rowsK (fitR f P) (P.map Prod.fst)) := by
  have hwP : ((P.map Prod.fst).map fun k => (f ((afind P k).getD 0)).2) = nsL f P := by
    rw [List.map_map]
    refine List.map_congr_left fun x hx => ?_
    show (f ((afind P x.1).getD 0)).2 = (f x.2).2
    rw [hP.find (k := x.1) (v := x.2) hx]; rfl
  obtain ⟨dc, hhd⟩ := hp.head
  have := each_rows (step := model_tree_fits.s1 H1 (some pgb)) hp.keys hhd (keys_nodup hP) hp.lt (get_lt hL) hne
    (fun l => .mp (encA boW (dst (base ++ l.map fun k => (f ((afind P k).getD 0)).2))) 0) (by rw [hL, List.map_nil, List.append_nil]) (fun _ => 1) (fitR f P) (fun _ => rfl) (fun _ => ())
    (fun l hl => ⟨by
      rw [dst_eq (ns' := base ++ (P.map Prod.fst).map fun k => (f ((afind P k).getD 0)).2) fun k => by
        rw [List.mem_append, List.mem_append, (hl.map _).mem_iff], ], rfl⟩)
    (fun π l => bo_ren π _ _)
    (fun π _ k _ x hx => by
      rw [List.mem_singleton.1 hx]; rfl)
    (fun l k hl hn hk hkl K hKL hKlow hKlen => by
      obtain ⟨v, hv⟩ := Option.isSome_iff_exists.1 (afind_isSome.2 hk)
      have hpK : MpA K pgb (lfW f) P := by
        obtain ⟨dc, hd⟩ := hp
        exact ⟨dc, by rw [hKlow _ (get_lt hd) (Ne.symm hne)]; exact hd⟩
      have hm1 : mat K (.agg [.str, .int .i64]) (some pgb) k = (some ((f v).1, (f v).2, ()) : Option (Bytes × Int × Unit)) := hpK.mat (.agg [.str, .int .i64]) k (by rw [hv]; rfl)
      have hLk := get_lt hKL
      have hset : mset (K ++ [Blk.cells [.str (f v).1, .int .i64 (f v).2] .exact]) (some L) (f v).2 (.one (.bool true)) = some ((K ++ [Blk.cells [.str (f v).1, .int .i64 (f v).2] .exact]).set L (.mp (encA boW (ains (dst (base ++ l.map fun k => (f ((afind P k).getD 0)).2)) (f v).2 ())) 0)) :=
        mset_of (by rw [List.getElem?_append_left hLk]; exact hKL) (f v).2 () rfl
      have hw : wr (K ++ [Blk.cells [.str [], .int .i64 0] .exact]) K.length 0 [.str (f v).1, .int .i64 (f v).2] = some (K ++ [Blk.cells [.str (f v).1, .int .i64 (f v).2] .exact]) := by
        rw [wr_t0, wr_c0 _ _ _ _ (by simp)]; rfl
      have hr : rdI .i64 (K ++ [Blk.cells [.str (f v).1, .int .i64 (f v).2] .exact]) K.length 1 = some (f v).2 := rdI_of (by rw [tl_get0]; rfl) rfl
      unfold model_tree_fits.s1
      refine (bind_to hm1).trans ((bind_to hw).trans ((bind_to hr).trans ?_))
      rw [hL1]
      refine (bind_to hset).trans ?_
      rw [List.set_append_left _ _ hLk]
      show some ((), _) = some ((), _)
      congr 3
      · rw [List.map_append, ← List.append_assoc]
        show _ = K.set L (.mp (encA boW (dst (_ ++ [(f ((afind P k).getD 0)).2]))) 0)
        rw [dst_snoc, hv]; rfl
      · unfold fitR
        rw [hv]; rfl)
  rw [hwP] at this
  exact this
def fitR2 (pg : Int → Nat) (f : LfF) (st : Sta) (k : Int) : List Blk :=
  [.cells [.int .i64 (spV pg k (afind st.sp k)).1, .bool (spV pg k (afind st.sp k)).2.1, .mp (some (pg k))] .exact, .dead] ++ rowsK (fitR f (pgs st.lv k)) ((pgs st.lv k).map Prod.fst)
theorem fitR_len (f : LfF) (P : List (Int × Int)) : (rowsK (fitR f P) (P.map Prod.fst)).length = P.length := by
  rw [rowsK_len (fun _ => 1) _ (fun _ => rfl)]
  have : ∀ l : List Int, ktot (fun _ => 1) l = l.length := fun l => by
    induction l with
    | nil => rfl
    | cons x l ih => rw [ktot, ih, List.length_cons]; omega
  rw [this, List.length_map]
theorem sum_perm {α : Type} {l l' : List α} (h : l.Perm l') (g : α → Nat) : (l.map g).sum = (l'.map g).sum := by
  induction h with
  | nil => rfl
  | cons x _ ih => simp only [List.map_cons, List.sum_cons, ih]
  | swap x y l => simp only [List.map_cons, List.sum_cons]; omega
  | trans _ _ ih1 ih2 => exact ih1.trans ih2
theorem sum_sub {l ks : List Int} (hn : l.Nodup) (hl : ∀ x ∈ l, x ∈ ks) (g : Int → Nat) : (l.map g).sum ≤ (ks.map g).sum := by
  induction l generalizing ks with
  | nil => exact Nat.zero_le _
  | cons x l ih =>
    have hx := hl x (by simp)
    have hp : ks.Perm (x :: ks.erase x) := List.perm_cons_erase hx
    rw [sum_perm hp g, List.map_cons, List.map_cons, List.sum_cons, List.sum_cons]
    have := ih (ks := ks.erase x) (List.nodup_cons.1 hn).2 fun y hy => by
      have hne : y ≠ x := fun e => (List.nodup_cons.1 hn).1 (e ▸ hy)
      exact (List.mem_erase_of_ne hne).2 (hl y (by simp [hy]))
    omega
/-- All keys, all numbers of leaves. -/
theorem fits_outer {H1 : Heap} {L : Nat} (h : TrAt G m pg f st) (hL1 : H1.length = L) (hLm : ∀ b, trF m pg st b → b ≠ L) (hL : G[L]? = some (.mp [] 0)) :
    ∃ K, eachW (model_tree_fits.s2 (some m) H1) (some m) (0, ()) G = some (((((st.sp.map fun x => (pgs st.lv x.1).length).sum : Nat) : Int), ()), K) ∧ K[L]? = some (.mp (encA boW (dst ((st.sp.map fun x => nsL f (pgs st.lv x.1)).flatten))) 0) ∧ Keep (fun b => b = L) G K := by
  have hml := h.sp.lt
  have hLl := get_lt hL
  obtain ⟨dc, hhd⟩ := h.sp.head
  have hin : ∀ {k : Int}, k ∈ st.sp.map Prod.fst → ∃ x, afind st.sp k = some x := fun hk => Option.isSome_iff_exists.1 (afind_isSome.2 hk)
  have hsum : (st.sp.map fun x => (pgs st.lv x.1).length).sum ≤ 15360 := by rw [pages_sum h.w.sp h.w.own]; exact h.w.many
  have hsum2 : ((st.sp.map Prod.fst).map fun k => (pgs st.lv k).length) = st.sp.map fun x => (pgs st.lv x.1).length := by rw [List.map_map]; rfl
  have hns2 : ((st.sp.map Prod.fst).map fun k => nsL f (pgs st.lv k)) = st.sp.map fun x => nsL f (pgs st.lv x.1) := by rw [List.map_map]; rfl
  have := each_rows (step := model_tree_fits.s2 (some m) H1) h.sp.keys hhd (keys_nodup h.w.sp) hml hLl (Ne.symm (hLm m (.inl rfl)))
    (fun l => .mp (encA boW (dst (l.map fun k => nsL f (pgs st.lv k)).flatten)) 0) hL (fun k => 2 + (pgs st.lv k).length) (fitR2 pg f st) (fun k => by unfold fitR2; rw [List.length_append, fitR_len]; rfl) (fun l => ((((l.map fun k => (pgs st.lv k).length).sum : Nat) : Int), ()))
    (fun l hl => ⟨by
      rw [dst_eq (ns' := ((st.sp.map Prod.fst).map fun k => nsL f (pgs st.lv k)).flatten) fun k => by
        rw [List.mem_flatten, List.mem_flatten]
        exact ⟨fun ⟨a, ha, hk⟩ => ⟨a, (hl.map _).subset ha, hk⟩, fun ⟨a, ha, hk⟩ => ⟨a, (hl.map _).symm.subset ha, hk⟩⟩], by rw [sum_perm hl]⟩)
    (fun π l => bo_ren π _ _)
    (fun π hπ k hk x hx => by
      obtain ⟨y, hy⟩ := hin hk
      unfold fitR2 at hx
      rcases List.mem_append.1 hx with hx | hx
      · rcases List.mem_cons.1 hx with rfl | hx
        · show Blk.cells [_, _, C.mp (some (π (pg k)))] _ = _
          rw [hπ _ (h.lt (.inr ⟨k, y, hy, rfl⟩))]; rfl
        · rw [List.mem_singleton.1 hx]; rfl
      · unfold rowsK at hx
        obtain ⟨a, ha, hxa⟩ := List.mem_flatten.1 hx
        obtain ⟨j, hj, rfl⟩ := List.mem_map.1 ha
        rw [List.mem_singleton.1 hxa]; rfl)
    (fun l k hl hn hk hkl K hKL hKlow hKlen => by
      obtain ⟨x, hx⟩ := hin hk
      have hspK : MpA K m (spW pg) st.sp := by
        obtain ⟨dc, hd⟩ := h.sp
        exact ⟨dc, by rw [hKlow _ hml (hLm m (.inl rfl))]; exact hd⟩
      have hpk := h.pp k x hx
      have hpkl := hpk.lt
      have hneL := hLm (pg k) (.inr ⟨k, x, hx, rfl⟩)
      have hpK : MpA K (pg k) (lfW f) (pgs st.lv k) := by
        obtain ⟨dc, hd⟩ := hpk
        exact ⟨dc, by rw [hKlow _ (get_lt hd) hneL]; exact hd⟩
      have hLk := get_lt hKL
      have hm1 : mat K (.agg [.int .i64, .bool, .mp]) (some m) k = (some (x.1, x.2, some (pg k), ()) : Option (Int × Bool × Option Nat × Unit)) := hspK.mat (.agg [.int .i64, .bool, .mp]) k (by rw [hx]; rfl)
      have hw : wr (K ++ [Blk.cells [.int .i64 0, .bool false, .mp none] .exact]) K.length 0 [.int .i64 x.1, .bool x.2, .mp (some (pg k))] = some (K ++ [Blk.cells [.int .i64 x.1, .bool x.2, .mp (some (pg k))] .exact]) := by
        rw [wr_t0, wr_c0 _ _ _ _ (by simp)]; rfl
      have t0 : (K ++ [Blk.cells [.int .i64 x.1, .bool x.2, .mp (some (pg k))] .exact])[K.length]? = some (.cells [.int .i64 x.1, .bool x.2, .mp (some (pg k))] .exact) := by rw [tl_get0]; rfl
      have hlen := (hpK.keep (F := fun _ => False) (Keep.app _ K [.cells [.int .i64 x.1, .bool x.2, .mp (some (pg k))] .exact]) fun hf => hf).len
      have hin2 := fits_inner (G := K ++ [.cells [.int .i64 x.1, .bool x.2, .mp (some (pg k))] .exact] ++ [.dead]) (hpK.keep (F := fun _ => False) ((Keep.app _ K [.cells [.int .i64 x.1, .bool x.2, .mp (some (pg k))] .exact]).trans (Keep.app _ _ [.dead])) fun hf => hf) (pgs_asc h.w.lv k) hL1 (Ne.symm hneL) _
        (by rw [List.append_assoc, List.getElem?_append_left hLk]; exact hKL)
      have hle := sum_sub (l := l ++ [k]) (ks := st.sp.map Prod.fst) (List.nodup_append.2 ⟨hn, by simp, fun a ha b hb => by rw [List.mem_singleton.1 hb]; exact fun e => hkl (e ▸ ha)⟩) (fun y hy => (List.mem_append.1 hy).elim (hl y) fun e => by rw [List.mem_singleton.1 e]; exact hk) (fun k => (pgs st.lv k).length)
      rw [hsum2, List.map_append, List.sum_append, List.map_cons, List.map_nil, List.sum_cons, List.sum_nil] at hle
      unfold model_tree_fits.s2
      refine (bind_to hm1).trans ((bind_to hw).trans ((bind_to (rdM_of t0 rfl)).trans ((bind_to hlen).trans ((bind_to (rdM_of t0 rfl)).trans ((bind_to hin2).trans ?_)))))
      show some (_, _) = some (_, _)
      congr 2
      · show ((IntKind.wrap .i64 (_ + _), ()) : Int × Unit) = _
        rw [wrap_i64 (by omega) (by omega), List.map_append, List.sum_append, List.map_cons, List.map_nil, List.sum_cons, List.sum_nil]
        rw [Nat.add_zero, Int.natCast_add]
      · have e1 : (l.map fun k => nsL f (pgs st.lv k)).flatten ++ nsL f (pgs st.lv k) = ((l ++ [k]).map fun k => nsL f (pgs st.lv k)).flatten := by rw [List.map_append, List.flatten_append]; simp
        rw [List.append_assoc, List.set_append_left _ _ hLk, List.append_assoc, e1]
        unfold fitR2
        rw [hx]; rfl)
  rw [hsum2, hns2] at this
  refine ⟨_, this, ?_, ⟨?_, fun b hb hbL => ?_⟩⟩
  · rw [List.getElem?_append_left (by simpa using hLl), set_get hLl]
  · rw [List.length_append, List.length_set]; omega
  · rw [List.getElem?_append_left (by simpa using hb), set_get' (Ne.symm hbL)]
end
end Ev

namespace Ev
open Go (IntKind)

section
variable {H G : Heap} {m : Nat} {pg : Int → Nat} {f f' : LfF} {st : Sta}
theorem cnt_mem {lv : List (Int × Int)} {c : Int} (h : cnt lv c ≠ 0) : ∃ x ∈ lv, x.2 = c := by
  unfold cnt at h
  obtain ⟨x, hx⟩ := List.exists_mem_of_length_pos (Nat.pos_of_ne_zero h)
  have := List.mem_filter.1 hx
  exact ⟨x, this.1, by simpa using this.2⟩
theorem nodup_map_on {α : Type} {l : List Int} {g : Int → α} (h : l.Nodup) (hg : ∀ x ∈ l, ∀ y ∈ l, g x = g y → x = y) : (l.map g).Nodup := by
  unfold List.Nodup
  rw [List.pairwise_map]
  exact List.Pairwise.imp_of_mem (fun {a b} ha hb hne e => hne (hg a ha b hb e)) h
/-- As many numbers as places. -/
theorem dst_count (w : SaW st) (inj : ∀ x ∈ st.lv, ∀ y ∈ st.lv, (f x.2).2 = (f y.2).2 → x.2 = y.2) : (dst ((st.sp.map fun x => nsL f (pgs st.lv x.1)).flatten)).length = (rfOf st.lv).length := by
  have hmem : ∀ n, n ∈ (st.sp.map fun x => nsL f (pgs st.lv x.1)).flatten ↔ ∃ x ∈ st.lv, (f x.2).2 = n := fun n => by
    rw [List.mem_flatten]
    constructor
    · rintro ⟨a, ha, hn⟩
      obtain ⟨y, hy, rfl⟩ := List.mem_map.1 ha
      obtain ⟨z, hz, rfl⟩ := List.mem_map.1 hn
      exact ⟨_, (pgs_mem hz).2.2, rfl⟩
    · rintro ⟨x, hx, rfl⟩
      obtain ⟨y, hy⟩ := Option.isSome_iff_exists.1 (w.own x hx)
      refine ⟨_, List.mem_map.2 ⟨_, afind_mem hy, rfl⟩, List.mem_map.2 ⟨(x.1 % 1024, x.2), ?_, rfl⟩⟩
      have h1 : afind (pgs st.lv (x.1 / 1024)) (x.1 % 1024) = some x.2 := by
        rw [pgs_find w.lv, if_pos (by omega), show x.1 / 1024 * 1024 + x.1 % 1024 = x.1 by omega]
        exact w.lv.find hx
      exact afind_mem h1
  have hA : ∀ c, c ∈ (rfOf st.lv).map Prod.fst ↔ ∃ x ∈ st.lv, x.2 = c := fun c => by
    rw [← afind_isSome, (rfOf_ok st.lv).find]
    constructor
    · intro h
      by_cases e : cnt st.lv c = 0
      · rw [if_pos e] at h; cases h
      · exact cnt_mem e
    · rintro ⟨x, hx, rfl⟩
      have := cnt_pos (w.lv.find (k := x.1) (v := x.2) hx)
      rw [if_neg (by omega)]; rfl
  have hB : ∀ n, n ∈ (dst ((st.sp.map fun x => nsL f (pgs st.lv x.1)).flatten)).map Prod.fst ↔ ∃ x ∈ st.lv, (f x.2).2 = n := fun n => by
    rw [← afind_isSome, dst_find, ← hmem]
    by_cases e : n ∈ (st.sp.map fun x => nsL f (pgs st.lv x.1)).flatten
    · rw [if_pos e]; exact ⟨fun _ => e, fun _ => rfl⟩
    · rw [if_neg e]; exact ⟨fun h => (by cases h), fun h => absurd h e⟩
  have nA : ((rfOf st.lv).map Prod.fst).Nodup := keys_nodup (rfOf_ok _).asc
  have nB : ((dst ((st.sp.map fun x => nsL f (pgs st.lv x.1)).flatten)).map Prod.fst).Nodup := keys_nodup (dst_asc _)
  have nA' : (((rfOf st.lv).map Prod.fst).map fun c => (f c).2).Nodup := nodup_map_on nA fun a ha b hb e => by
    obtain ⟨x, hx, rfl⟩ := (hA a).1 ha
    obtain ⟨y, hy, rfl⟩ := (hA b).1 hb
    exact inj x hx y hy e
  have h1 := nodup_len nA' fun n hn => by
    obtain ⟨c, hc, rfl⟩ := List.mem_map.1 hn
    obtain ⟨x, hx, rfl⟩ := (hA c).1 hc
    exact (hB _).2 ⟨x, hx, rfl⟩
  have h2 := nodup_len (ks := ((rfOf st.lv).map Prod.fst).map fun c => (f c).2) nB fun n hn => by
    obtain ⟨x, hx, rfl⟩ := (hB n).1 hn
    exact List.mem_map.2 ⟨x.2, (hA _).2 ⟨x, hx, rfl⟩, rfl⟩
  simp only [List.length_map] at h1 h2
  omega
def fitS (st : Sta) (r : Int × Int × Int × Int × Unit) : Bool := decide ((st.lv.length : Int) ≤ r.2.1) && decide (((rfOf st.lv).length : Int) ≤ r.1)
theorem tr_fits (h : TrAt H m pg f st) (r : Int × Int × Int × Int × Unit) (inj : ∀ x ∈ st.lv, ∀ y ∈ st.lv, (f x.2).2 = (f y.2).2 → x.2 = y.2) :
    WP (model_tree_fits (some m) r H) fun x => x.1.1 = fitS st r ∧ Keep (fun _ => False) H x.2 := by
  have k0 := Keep.app (fun _ => False) H [.cells [.int .i64 r.1, .int .i64 r.2.1, .int .i64 r.2.2.1, .int .i64 r.2.2.2.1] .exact, .mp [] 0, .dead]
  have h0 := h.keep k0 fun _ _ hf => hf
  have hL1 : (H ++ [Blk.cells [.int .i64 r.1, .int .i64 r.2.1, .int .i64 r.2.2.1, .int .i64 r.2.2.2.1] .exact]).length = H.length + 1 := by simp
  have e0 : H ++ [Blk.cells [.int .i64 r.1, .int .i64 r.2.1, .int .i64 r.2.2.1, .int .i64 r.2.2.2.1] .exact] ++ [.mp [] 0] ++ [.dead] = H ++ [.cells [.int .i64 r.1, .int .i64 r.2.1, .int .i64 r.2.2.1, .int .i64 r.2.2.2.1] .exact, .mp [] 0, .dead] := by simp
  obtain ⟨K, e1, e2, e3⟩ := fits_outer (L := H.length + 1) h0 hL1 (fun b hb => by have := h.lt hb; omega) (by rw [tl_get1]; rfl)
  have t0 : K[H.length]? = some (.cells [.int .i64 r.1, .int .i64 r.2.1, .int .i64 r.2.2.1, .int .i64 r.2.2.2.1] .exact) := e3.get (by rw [tl_get0]; rfl) (by omega)
  have hlen := MpA.len (f := boW) (l := dst ((st.sp.map fun x => nsL f (pgs st.lv x.1)).flatten)) ⟨0, e2⟩
  rw [pages_sum h.w.sp h.w.own] at e1
  have hkK : Keep (fun _ => False) H K := ⟨by have := e3.len; simp only [List.length_append] at this; omega, fun b hb _ => by
    rw [e3.same b (by simp only [List.length_append]; omega) (by omega)]; exact List.getElem?_append_left hb⟩
  unfold model_tree_fits fitS
  simp only
  rw [e0]
  refine wp_to e1 (wp_to (rdI_of t0 rfl) (wp_c (fun e => ?_) (fun e => ?_)))
  · have e : decide ((st.lv.length : Int) ≤ r.2.1) = true := e
    rw [e, Bool.true_and, hL1]
    refine wp_to hlen (wp_to (rdI_of t0 rfl) (wp_some ⟨?_, hkK⟩))
    rw [dst_count h.w inj]
  · have e : decide ((st.lv.length : Int) ≤ r.2.1) = false := e
    rw [e, Bool.false_and]
    exact wp_some ⟨rfl, hkK⟩
theorem pgs_off {lv : List (Int × Int)} (h : Asc lv) {id id' : Int} (hne : id' ≠ id) : pgs (lvOff lv id) id' = pgs lv id' := by
  unfold pgs lvOff
  rw [List.filter_filter]
  congr 1
  refine List.filter_congr fun x _ => ?_
  by_cases e : x.1 / 1024 = id'
  · rw [decide_eq_true e, decide_eq_false (show ¬ x.1 / 1024 = id by omega)]; rfl
  · rw [decide_eq_false e]; rfl
theorem pgs_insAll {lv P : List (Int × Int)} (h : Asc lv) (hP : Asc P) (hpb : ∀ x ∈ P, 0 ≤ x.1 ∧ x.1 < 1024) (to id' : Int) (hfree : ∀ p, 0 ≤ p ∧ p < 1024 → afind lv (to * 1024 + p) = none) :
    pgs (insAll to lv P) id' = if id' = to then P else pgs lv id' := by
  by_cases e : id' = to
  · rw [if_pos e, e]
    refine asc_ext (pgs_asc (insAll_asc h) _) hP fun p => ?_
    rw [pgs_find (insAll_asc h), insAll_find _ h hP, show to * 1024 + p - to * 1024 = p by omega]
    by_cases hp : 0 ≤ p ∧ p < 1024
    · rw [if_pos hp, hfree p hp, Option.or_none]
    · rw [if_neg hp, afind_none fun x hx hh => hp (by have := hpb x hx; omega)]
  · rw [if_neg e]
    refine asc_ext (pgs_asc (insAll_asc h) _) (pgs_asc h _) fun p => ?_
    rw [pgs_find (insAll_asc h), pgs_find h, insAll_find _ h hP]
    by_cases hp : 0 ≤ p ∧ p < 1024
    · rw [if_pos hp, if_pos hp, afind_none (l := P) fun x hx hh => by have := hpb x hx; omega, Option.none_or]
    · rw [if_neg hp, if_neg hp]
/-- A new space, with a map of its own. -/
theorem TrAt.added (h : TrAt G m pg f st) {to q : Int} (hto : 1 ≤ to ∧ to ≤ 15) (hq : q ≤ 1024) (hn : afind st.sp to = none) {P : List (Int × Int)} (hP : Asc P) (hpb : ∀ x ∈ P, 0 ≤ x.1 ∧ x.1 < 1024) {N : Nat} (hN : MpA G N (lfW f) P) (hNn : ∀ b, trF m pg st b → b ≠ N) :
    ∃ K, mset G (some m) to (.agg [.int .i64 q, .bool false, .mp (some N)]) = some K ∧ TrAt K m (fun j => if j = to then N else pg j) f ⟨ains st.sp to (q, false), insAll to st.lv P, st.bd, st.wn⟩ ∧ Keep (fun b => b = m) G K := by
  obtain ⟨ds, hS⟩ := h.sp
  have hS' : G[m]? = some (.mp (encA (spW fun j => if j = to then N else pg j) st.sp) ds) := by
    rw [hS, enc_congr (f := spW pg) (g := spW fun j => if j = to then N else pg j) fun y hy => by
      have hne : y.1 ≠ to := fun e => by rw [← e, h.w.sp.find (k := y.1) (v := y.2) hy] at hn; cases hn
      unfold spW
      simp only [if_neg hne]]
  have hset := mset_of hS' to (q, false) (w := .agg [.int .i64 q, .bool false, .mp (some N)]) (by unfold spW; simp only [if_true])
  have kk : Keep (fun b => b = m) G (G.set m (.mp (encA (spW fun j => if j = to then N else pg j) (ains st.sp to (q, false))) ds)) := Keep.set _ _ _ rfl
  have hml := get_lt hS
  have hfree : ∀ p, 0 ≤ p ∧ p < 1024 → afind st.lv (to * 1024 + p) = none := fun p hp => free_keys h.w hn hp
  have w' : SaW ⟨ains st.sp to (q, false), insAll to st.lv P, st.bd, st.wn⟩ := by
    have w1 : SaW (st.openS to q P).2 := by
      unfold Sta.openS
      rw [hn, if_neg (by decide)]
      refine ⟨h.w.sp.ins _ _, insAll_asc h.w.lv, h.w.bd, h.w.wn, fun y hy => ?_, fun y hy => (ains_mem hy).elim (fun e => by rw [e]; exact ⟨hto.1, hto.2, hq⟩) (h.w.ids y), h.w.bds, h.w.wns⟩
      have hf : afind (insAll to st.lv P) y.1 = some y.2 := (insAll_asc h.w.lv).find hy
      rw [insAll_find y.1 h.w.lv hP] at hf
      show (afind (ains st.sp to (q, false)) (y.1 / 1024)).isSome = true
      rw [afind_ins h.w.sp]
      cases hg : afind P (y.1 - to * 1024) with
      | some u =>
        have := hpb _ (afind_mem hg)
        simp only at this
        rw [if_pos (by omega)]; rfl
      | none =>
        rw [hg] at hf
        split
        · rfl
        · exact h.w.own y (afind_mem hf)
    unfold Sta.openS at w1
    rw [hn, if_neg (by decide)] at w1
    exact w1
  have hfi : ∀ id x, afind (ains st.sp to (q, false)) id = some x → (id = to) ∨ (id ≠ to ∧ afind st.sp id = some x) := fun id x hx => by
    rw [afind_ins h.w.sp] at hx
    by_cases e : id = to
    · exact .inl e
    · rw [if_neg e] at hx; exact .inr ⟨e, hx⟩
  refine ⟨_, hset, ⟨w', ⟨ds, set_get hml⟩, fun id x hx => ?_, fun id x hx => ?_, fun id x id' x' hx hx' e => ?_⟩, kk⟩
  · show MpA _ (if id = to then N else pg id) _ (pgs (insAll to st.lv P) id)
    rw [pgs_insAll h.w.lv hP hpb to id hfree]
    rcases hfi id x hx with e | ⟨e, hx⟩
    · rw [if_pos e, if_pos e]; exact hN.keep kk (Ne.symm (hNn m (.inl rfl)))
    · rw [if_neg e, if_neg e]; exact (h.pp id x hx).keep kk (h.pn id x hx)
  · show (if id = to then N else pg id) ≠ m
    rcases hfi id x hx with e | ⟨e, hx⟩
    · rw [if_pos e]; exact Ne.symm (hNn m (.inl rfl))
    · rw [if_neg e]; exact h.pn id x hx
  · have e : (if id = to then N else pg id) = (if id' = to then N else pg id') := e
    rcases hfi id x hx with e1 | ⟨e1, hx1⟩
    · rcases hfi id' x' hx' with e2 | ⟨e2, hx2⟩
      · rw [e1, e2]
      · rw [if_pos e1, if_neg e2] at e
        exact absurd e.symm (hNn _ (.inr ⟨id', x', hx2, rfl⟩))
    · rcases hfi id' x' hx' with e2 | ⟨e2, hx2⟩
      · rw [if_neg e1, if_pos e2] at e
        exact absurd e (hNn _ (.inr ⟨id, x, hx1, rfl⟩))
      · rw [if_neg e1, if_neg e2] at e
        exact h.pi id x id' x' hx1 hx2 e
end
end Ev

namespace Ev
open Go (IntKind)

section
variable {H G K : Heap} {m : Nat} {pg : Int → Nat} {f f' : LfF} {st : Sta}
/-- A space's pages, changed. -/
theorem TrAt.page (h : TrAt G m pg f st) {id p : Int} {x : Int × Bool} (hx : afind st.sp id = some x) (hp : 0 ≤ p ∧ p < 1024) {lv' : List (Int × Int)} (w' : SaW ⟨st.sp, lv', st.bd, st.wn⟩) (hf : ∀ y ∈ st.lv, f y.2 = f' y.2) (hoth : ∀ id', id' ≠ id → pgs lv' id' = pgs st.lv id') {dc : Nat} :
    TrAt (G.set (pg id) (.mp (encA (lfW f') (pgs lv' id)) dc)) m pg f' ⟨st.sp, lv', st.bd, st.wn⟩ ∧ Keep (fun b => b = pg id) G (G.set (pg id) (.mp (encA (lfW f') (pgs lv' id)) dc)) := by
  have kk : Keep (fun b => b = pg id) G (G.set (pg id) (.mp (encA (lfW f') (pgs lv' id)) dc)) := Keep.set _ _ _ rfl
  have h' := h.congr hf
  refine ⟨⟨w', h'.sp.keep kk (Ne.symm (h.pn id x hx)), fun id' x' hx' => ?_, h.pn, h.pi⟩, kk⟩
  by_cases e : id' = id
  · subst e
    exact ⟨dc, set_get (h.pp id' x hx).lt⟩
  · show MpA _ _ _ (pgs lv' id')
    rw [hoth id' e]
    exact (h'.pp id' x' hx').keep kk fun hh => e (h.pi _ _ _ _ hx' hx hh)
theorem TrAt.dropped (h : TrAt G m pg f st) (id : Int) : ∃ K, mdel G (some m) id = some K ∧ TrAt K m pg f ⟨adrop st.sp id, lvOff st.lv id, st.bd, st.wn⟩ ∧ Keep (fun b => b = m) G K := by
  obtain ⟨K, e1, e2, e3⟩ := h.sp.del id
  have hfi : ∀ j x, afind (adrop st.sp id) j = some x → j ≠ id ∧ afind st.sp j = some x := fun j x hx => by
    rw [afind_drop h.w.sp] at hx
    by_cases e : j = id
    · rw [if_pos e] at hx; cases hx
    · rw [if_neg e] at hx; exact ⟨e, hx⟩
  have w' : SaW ⟨adrop st.sp id, lvOff st.lv id, st.bd, st.wn⟩ := ⟨h.w.sp.drop _, lvOff_asc h.w.lv id, h.w.bd, h.w.wn, fun y hy => by
    have hm := List.mem_filter.1 hy
    have hne : ¬ y.1 / 1024 = id := by simpa using hm.2
    show (afind (adrop st.sp id) (y.1 / 1024)).isSome = true
    rw [afind_drop h.w.sp, if_neg hne]
    exact h.w.own y hm.1, fun y hy => h.w.ids y ((adrop_sub _ _).subset hy), h.w.bds, h.w.wns⟩
  refine ⟨K, e1, ⟨w', e2, fun j x hx => ?_, fun j x hx => h.pn j x (hfi j x hx).2, fun j x j' x' hx hx' e => h.pi _ _ _ _ (hfi j x hx).2 (hfi j' x' hx').2 e⟩, e3⟩
  have := hfi j x hx
  show MpA _ _ _ (pgs (lvOff st.lv id) j)
  rw [pgs_off h.w.lv this.1]
  exact (h.pp j x this.2).keep e3 (h.pn j x this.2)
theorem TrAt.sealed (h : TrAt G m pg f st) {id : Int} {x : Int × Bool} (hx : afind st.sp id = some x) : ∃ K, mset G (some m) id (.agg [.int .i64 x.1, .bool true, .mp (some (pg id))]) = some K ∧ TrAt K m pg f ⟨ains st.sp id (x.1, true), st.lv, st.bd, st.wn⟩ ∧ Keep (fun b => b = m) G K := by
  obtain ⟨K, e1, e2, e3⟩ := h.sp.set id (x.1, true)
  have hfi : ∀ j y, afind (ains st.sp id (x.1, true)) j = some y → ∃ z, afind st.sp j = some z := fun j y hy => by
    rw [afind_ins h.w.sp] at hy
    by_cases e : j = id
    · exact ⟨x, e ▸ hx⟩
    · rw [if_neg e] at hy; exact ⟨y, hy⟩
  have hid := h.w.ids _ (afind_mem hx)
  have w' : SaW ⟨ains st.sp id (x.1, true), st.lv, st.bd, st.wn⟩ := ⟨h.w.sp.ins _ _, h.w.lv, h.w.bd, h.w.wn, fun y hy => by
    show (afind (ains st.sp id (x.1, true)) (y.1 / 1024)).isSome = true
    rw [afind_ins h.w.sp]
    split
    · rfl
    · exact h.w.own y hy, fun y hy => (ains_mem hy).elim (fun e => by rw [e]; exact hid) (h.w.ids y), h.w.bds, h.w.wns⟩
  refine ⟨K, e1, ⟨w', e2, fun j y hy => ?_, fun j y hy => ?_, fun j y j' y' hy hy' e => ?_⟩, e3⟩
  · obtain ⟨z, hz⟩ := hfi j y hy
    exact (h.pp j z hz).keep e3 (h.pn j z hz)
  · obtain ⟨z, hz⟩ := hfi j y hy
    exact h.pn j z hz
  · obtain ⟨z, hz⟩ := hfi j y hy
    obtain ⟨z', hz'⟩ := hfi j' y' hy'
    exact h.pi _ _ _ _ hz hz' e
theorem wp_tmpS {β : Type} {a : Int} {b : Bool} {c : Option Nat} {K : Heap → Option β} {Q : β → Prop} (k : WP (K (G ++ [.cells [.int .i64 a, .bool b, .mp c] .exact])) Q) :
    WP ((wr (G ++ [.cells [.int .i64 0, .bool false, .mp none] .exact]) G.length 0 [.int .i64 a, .bool b, .mp c]).bind K) Q :=
  wp_to (by rw [wr_t0, wr_c0 _ _ _ _ (by simp)]; rfl) k
theorem wp_tmpL {β : Type} {a : Bytes} {b : Int} {K : Heap → Option β} {Q : β → Prop} (k : WP (K (G ++ [.cells [.str a, .int .i64 b] .exact])) Q) :
    WP ((wr (G ++ [.cells [.str [], .int .i64 0] .exact]) G.length 0 [.str a, .int .i64 b]).bind K) Q :=
  wp_to (by rw [wr_t0, wr_c0 _ _ _ _ (by simp)]; rfl) k
/-- What a record does to a tree. -/
theorem tr_do (h : TrAt H m pg f st) {x : RecT} (g : GoodR x) (hk : x.1 = 2 ∨ (4 ≤ x.1 ∧ x.1 ≤ 7)) :
    WP (model_tree_do (some m) x H) fun r => r.1.1 = (st.applyS x).1 ∧ ∃ pg', TrAt r.2 m pg' f (st.applyS x).2 ∧ Keep (trF m pg st) H r.2 := by
  have hbx : ∀ b, trF m pg st b → b < H.length := fun b hb => h.lt hb
  have hT : ∀ {A B : Heap}, Keep (fun b => b = m) A B → Keep (trF m pg st) A B := fun k => k.mono fun b e => .inl e
  have hF : ∀ {A B : Heap}, Keep (fun _ => False) A B → Keep (trF m pg st) A B := fun k => k.mono fun b e => e.elim
  unfold model_tree_do
  simp only
  have k1 := Keep.app (fun _ => False) H [.cells [.int .i64 x.1, .int .i64 x.2.1, .int .i64 x.2.2.1, .int .i64 x.2.2.2.1, .int .i64 x.2.2.2.2.1, .int .i64 x.2.2.2.2.2.1] .exact]
  have t1 : (H ++ [Blk.cells [.int .i64 x.1, .int .i64 x.2.1, .int .i64 x.2.2.1, .int .i64 x.2.2.2.1, .int .i64 x.2.2.2.2.1, .int .i64 x.2.2.2.2.2.1] .exact])[H.length]? = some (recB x) := by rw [tl_get0]; rfl
  have h1 := h.keep k1 fun _ _ hf => hf
  have l1 : (H ++ [Blk.cells [.int .i64 x.1, .int .i64 x.2.1, .int .i64 x.2.2.1, .int .i64 x.2.2.2.1, .int .i64 x.2.2.2.2.1, .int .i64 x.2.2.2.2.2.1] .exact]).length = H.length + 1 := by simp
  generalize H ++ [Blk.cells [.int .i64 x.1, .int .i64 x.2.1, .int .i64 x.2.2.1, .int .i64 x.2.2.2.1, .int .i64 x.2.2.2.2.1, .int .i64 x.2.2.2.2.2.1] .exact] = H1 at k1 t1 h1 l1 ⊢
  refine wp_to (rdI_of t1 rfl) (wp_to (h1.sp.space x.2.1) (wp_tmpS ?_))
  have k2 := Keep.app (fun _ => False) H1 [.cells [.int .i64 (spV pg x.2.1 (afind st.sp x.2.1)).1, .bool (spV pg x.2.1 (afind st.sp x.2.1)).2.1, .mp (spV pg x.2.1 (afind st.sp x.2.1)).2.2.1] .exact]
  have t2 := k2.get t1 fun hf => hf
  have h2 := h1.keep k2 fun _ _ hf => hf
  have b2 : (H1 ++ [Blk.cells [.int .i64 (spV pg x.2.1 (afind st.sp x.2.1)).1, .bool (spV pg x.2.1 (afind st.sp x.2.1)).2.1, .mp (spV pg x.2.1 (afind st.sp x.2.1)).2.2.1] .exact])[H1.length]? = some (.cells [.int .i64 (spV pg x.2.1 (afind st.sp x.2.1)).1, .bool (spV pg x.2.1 (afind st.sp x.2.1)).2.1, .mp (spV pg x.2.1 (afind st.sp x.2.1)).2.2.1] .exact) := by rw [tl_get0]; rfl
  have l2 : (H1 ++ [Blk.cells [.int .i64 (spV pg x.2.1 (afind st.sp x.2.1)).1, .bool (spV pg x.2.1 (afind st.sp x.2.1)).2.1, .mp (spV pg x.2.1 (afind st.sp x.2.1)).2.2.1] .exact]).length = H.length + 2 := by simp [l1]
  generalize H1 ++ [Blk.cells [.int .i64 (spV pg x.2.1 (afind st.sp x.2.1)).1, .bool (spV pg x.2.1 (afind st.sp x.2.1)).2.1, .mp (spV pg x.2.1 (afind st.sp x.2.1)).2.2.1] .exact] = H2 at k2 t2 h2 b2 l2 ⊢
  have k12 := k1.trans k2
  refine wp_to (rdI_of t2 rfl) ?_
  have hap0 := show st.applyS x = _ by unfold Sta.applyS; rw [if_neg (show ¬ x.1 = 3 by omega), if_neg (show ¬ x.1 = 8 by omega), if_neg (show ¬ x.1 = 9 by omega)]
  by_cases k4 : x.1 = 4
  · rw [if_pos k4] at hap0
    unfold Sta.openS at hap0
    cases hf : afind st.sp x.2.1 with
    | some y =>
      rw [hf, if_pos (show (some y).isSome = true from rfl)] at hap0
      rw [hap0]
      exact wp_t (by simp [hf, k4]) (wp_some ⟨rfl, pg, h2, hF k12⟩)
    | none =>
      rw [hf, if_neg (by decide)] at hap0
      rw [hap0]
      have k3 := Keep.app (fun _ => False) H2 [.mp [] 0]
      have h3 := h2.keep k3 fun _ _ hf => hf
      have hml := h2.lt (.inl rfl)
      obtain ⟨K, e1, e2, e3⟩ := h3.added (g.k4 k4).1 (g.k4 k4).2 hf (P := []) Asc.nil (fun x hx => absurd hx List.not_mem_nil) (N := H2.length) ⟨0, by rw [tl_get0]; rfl⟩ fun b hb => by have := hbx b hb; omega
      refine wp_f (by simp [hf, k4]) (wp_to (rdI_of t2 rfl) (wp_t (decide_eq_true k4) (wp_to (rdI_of t2 rfl) (wp_to (rdI_of t2 rfl) (wp_to e1 (wp_some ⟨rfl, _, e2, (hF (k12.trans k3)).trans (hT e3)⟩))))))
  · rw [if_neg k4] at hap0
    cases hf : afind st.sp x.2.1 with
    | none =>
      rw [hf] at hap0
      rw [hap0]
      exact wp_t (by simp [hf, k4]) (wp_some ⟨rfl, pg, h2, hF k12⟩)
    | some y =>
      rw [hf] at hap0 b2
      simp only at hap0
      rw [if_neg (show ¬ x.1 = 1 by omega)] at hap0
      have hid := h.w.ids _ (afind_mem hf)
      refine wp_f (by simp [hf, k4]) (wp_to (rdI_of t2 rfl) (wp_f (decide_eq_false k4) ?_))
      refine wp_if (p := x.1 = 5) rfl (fun k5 => ?_) (fun k5 => ?_)
      · rw [if_neg (show ¬ x.1 = 2 by omega), if_pos k5] at hap0
        rw [hap0]
        obtain ⟨K, e1, e2, e3⟩ := h2.dropped x.2.1
        exact wp_to (rdI_of t2 rfl) (wp_to e1 (wp_some ⟨rfl, _, e2, (hF k12).trans (hT e3)⟩))
      refine wp_if (p := x.1 = 6) rfl (fun k6 => ?_) (fun k6 => ?_)
      · rw [if_neg (show ¬ x.1 = 2 by omega), if_neg k5, if_pos k6] at hap0
        unfold Sta.openS at hap0
        refine wp_to (rdI_of t2 rfl) (wp_to (h2.sp.space x.2.2.2.2.1) (wp_tmpS ?_))
        have k3 := Keep.app (fun _ => False) H2 [.cells [.int .i64 (spV pg x.2.2.2.2.1 (afind st.sp x.2.2.2.2.1)).1, .bool (spV pg x.2.2.2.2.1 (afind st.sp x.2.2.2.2.1)).2.1, .mp (spV pg x.2.2.2.2.1 (afind st.sp x.2.2.2.2.1)).2.2.1] .exact]
        have t3 := k3.get t2 fun hf => hf
        have h3 := h2.keep k3 fun _ _ hf => hf
        have b3 := k3.get b2 fun hf => hf
        have l3 : H2.length ≤ (H2 ++ [Blk.cells [.int .i64 (spV pg x.2.2.2.2.1 (afind st.sp x.2.2.2.2.1)).1, .bool (spV pg x.2.2.2.2.1 (afind st.sp x.2.2.2.2.1)).2.1, .mp (spV pg x.2.2.2.2.1 (afind st.sp x.2.2.2.2.1)).2.2.1] .exact]).length := by simp
        generalize H2 ++ [Blk.cells [.int .i64 (spV pg x.2.2.2.2.1 (afind st.sp x.2.2.2.2.1)).1, .bool (spV pg x.2.2.2.2.1 (afind st.sp x.2.2.2.2.1)).2.1, .mp (spV pg x.2.2.2.2.1 (afind st.sp x.2.2.2.2.1)).2.2.1] .exact] = H3 at k3 t3 h3 b3 l3 ⊢
        cases hf2 : afind st.sp x.2.2.2.2.1 with
        | some z =>
          rw [hf2, if_pos (show (some z).isSome = true from rfl)] at hap0
          rw [hap0]
          exact wp_t rfl (wp_some ⟨rfl, pg, h3, hF (k12.trans k3)⟩)
        | none =>
          rw [hf2, if_neg (by decide)] at hap0
          rw [hap0]
          have hpp := h3.pp x.2.1 y hf
          have hcl := hpp.clone
          have k4' := Keep.app (fun _ => False) H3 [.mp (encA (lfW f) (pgs st.lv x.2.1)) 0]
          have t4 := k4'.get t3 fun hf => hf
          have b4 := k4'.get b3 fun hf => hf
          have h4 := h3.keep k4' fun _ _ hf => hf
          obtain ⟨K, e1, e2, e3⟩ := h4.added (g.k6 k6) hid.2.2 hf2 (P := pgs st.lv x.2.1) (pgs_asc h.w.lv _) (fun z hz => by have := pgs_mem hz; exact ⟨this.1, this.2.1⟩) (N := H3.length) ⟨0, by rw [tl_get0]; rfl⟩ fun b hb => by have := hbx b hb; omega
          refine wp_f rfl (wp_to (rdI_of t3 rfl) (wp_to (rdI_of b3 rfl) (wp_to (rdM_of b3 rfl) (wp_to hcl (wp_to (rdI_of t4 rfl) (wp_ite rfl (wp_to (rdI_of b4 rfl) (wp_ite rfl (wp_to e1 (wp_some ⟨rfl, _, e2, (hF ((k12.trans k3).trans k4')).trans (hT e3)⟩))))))))))
      refine wp_if (p := x.1 = 7) rfl (fun k7 => ?_) (fun k7 => ?_)
      · rw [if_neg (show ¬ x.1 = 2 by omega), if_neg k5, if_neg k6] at hap0
        rw [hap0]
        have hw : wr H2 H1.length 1 [.bool true] = some (H2.set H1.length (.cells [.int .i64 y.1, .bool true, .mp (some (pg x.2.1))] .exact)) := by rw [wr1_of b2 (by decide) (by simp)]; rfl
        have kk : Keep (fun b => b = H1.length) H2 (H2.set H1.length (.cells [.int .i64 y.1, .bool true, .mp (some (pg x.2.1))] .exact)) := Keep.set _ _ _ rfl
        have h3 := h2.keep kk fun b hb e => by have := hbx b hb; omega
        have t3 := kk.get t2 (by omega)
        have b3 : (H2.set H1.length (.cells [.int .i64 y.1, .bool true, .mp (some (pg x.2.1))] .exact))[H1.length]? = some (.cells [.int .i64 y.1, .bool true, .mp (some (pg x.2.1))] .exact) := set_get (by omega)
        obtain ⟨K, e1, e2, e3⟩ := h3.sealed hf
        refine wp_to hw (wp_to (rdI_of t3 rfl) (wp_to (v := ((y.1, true, some (pg x.2.1), ()) : Int × Bool × Option Nat × Unit)) (rd_agg_of b3 (by simp) rfl) (wp_to e1 (wp_some ⟨rfl, _, e2, ?_⟩))))
        refine Keep.trans2 ((hF k12).trans2 kk fun b hb e => by omega) (hT e3) fun b hb e => e
      · have k2' : x.1 = 2 := by omega
        rw [if_pos k2'] at hap0
        have hpp := h2.pp x.2.1 y hf
        refine wp_to (rdM_of b2 rfl) (wp_to (rdI_of t2 rfl) (wp_to (hpp.leaf x.2.2.1) (wp_tmpL ?_)))
        cases hp : afind (pgs st.lv x.2.1) x.2.2.1 with
        | none =>
          rw [hp, if_neg (by decide)] at hap0
          rw [hap0]
          have k3 := Keep.app (fun _ => False) H2 [.cells [.str [], .int .i64 0] .exact]
          exact wp_t rfl (wp_some ⟨rfl, pg, h2.keep k3 fun _ _ hf => hf, hF (k12.trans k3)⟩)
        | some v =>
          rw [hp, if_pos (show (some v).isSome = true from rfl)] at hap0
          rw [hap0]
          have k3 := Keep.app (fun _ => False) H2 [.cells [.str (f v).1, .int .i64 (f v).2] .exact]
          have t3 := k3.get t2 fun hf => hf
          have b3 := k3.get b2 fun hf => hf
          have h3 := h2.keep k3 fun _ _ hf => hf
          obtain ⟨dp, hP⟩ := h3.pp x.2.1 y hf
          have hpb : 0 ≤ x.2.2.1 ∧ x.2.2.1 < 1024 := by
            have := pgs_mem (afind_mem hp)
            exact ⟨this.1, this.2.1⟩
          have hdel := mdel_of hP x.2.2.1
          have hpd := pgs_drop h.w.lv x.2.1 x.2.2.1 hpb
          have hpd0 := hpd x.2.1
          rw [if_pos rfl] at hpd0
          have w' : SaW ⟨st.sp, adrop st.lv (x.2.1 * 1024 + x.2.2.1), st.bd, st.wn⟩ := h.w.less _
          obtain ⟨q1, q2⟩ := h3.page (f' := f) hf hpb (dc := dp + 1) w' (fun _ _ => rfl) fun id' hne => by rw [hpd id', if_neg hne]
          rw [hpd0] at q1 q2
          refine wp_f rfl (wp_to (rdM_of b3 rfl) (wp_to (rdI_of t3 rfl) (wp_to hdel (wp_some ⟨rfl, pg, q1, ?_⟩))))
          exact (hF (k12.trans k3)).trans (q2.mono fun b e => .inr ⟨x.2.1, y, hf, e⟩)
end
end Ev

namespace Ev
open Go (IntKind)

/-- Pages at places of their own, from 1000 on; what they say. -/
structure Pln where
  st : Sta
  tx : List Bytes
/-- A transaction; how many changes were made. -/
structure Tx where
  p : Pln
  many : Nat
abbrev RoomT := Int × Int × Int × Int × Unit
def Tx.stepD (t : Tx) (x : RecT) (r : RoomT) : Int × Tx :=
  if 8 ≤ t.many then (171, t) else if ¬ (t.p.st.applyS x).1 = 0 then ((t.p.st.applyS x).1, t) else if fitS (t.p.st.applyS x).2 r = true then (0, ⟨⟨(t.p.st.applyS x).2, t.p.tx⟩, t.many + 1⟩) else (172, t)
def putR (t : Tx) (id p : Int) : RecT := (1, id, p, 1000 + (t.p.tx.length : Int), 0, 0, ())
def Tx.stepP (t : Tx) (id p : Int) (text : Bytes) (r : RoomT) : Int × Tx :=
  if 8 ≤ t.many then (171, t) else if ¬ (t.p.st.applyS (putR t id p)).1 = 0 then ((t.p.st.applyS (putR t id p)).1, t) else if fitS (t.p.st.applyS (putR t id p)).2 r = true then (0, ⟨⟨(t.p.st.applyS (putR t id p)).2, t.p.tx ++ [text]⟩, t.many + 1⟩) else (172, t)
def ownK (x : RecT) : Bool := decide (x.1 = 2 ∨ (4 ≤ x.1 ∧ x.1 ≤ 7))
def Tx.doS (t : Tx) (x : RecT) (r : RoomT) : Int × Tx :=
  if ownK x = true ∧ chkR x = true then (if x.1 = 2 ∧ mayS t.p.st x.2.1 ≠ 0 then (mayS t.p.st x.2.1, t) else t.stepD x r) else (1, t)
def Tx.putS (t : Tx) (id p : Int) (text : Bytes) (r : RoomT) (size : Int) : Int × Tx :=
  if size < (text.length : Int) then (173, t) else if mayS t.p.st id ≠ 0 then (mayS t.p.st id, t) else t.stepP id p text r
/-- What pages say, and their numbers. -/
structure PlOK (p : Pln) (f : LfF) (n : Nat) : Prop where
  at_ : ∀ x ∈ p.st.lv, 1000 ≤ x.2 ∧ x.2 < 1000 + (p.tx.length : Int)
  tx : ∀ (i : Nat) (h : i < p.tx.length), (f (1000 + (i : Int))).1 = p.tx[i] ∧ 1 ≤ (f (1000 + (i : Int))).2 ∧ (f (1000 + (i : Int))).2 ≤ (n : Int)
  inj : ∀ i j : Nat, i < p.tx.length → j < p.tx.length → (f (1000 + (i : Int))).2 = (f (1000 + (j : Int))).2 → i = j
section
variable {p : Pln} {f : LfF} {n : Nat}
theorem PlOK.one (h : PlOK p f n) {x : Int × Int} (hx : x ∈ p.st.lv) : ∃ i : Nat, i < p.tx.length ∧ x.2 = 1000 + (i : Int) := by
  have := h.at_ x hx
  exact ⟨(x.2 - 1000).toNat, by omega, by omega⟩
theorem PlOK.inj' (h : PlOK p f n) : ∀ x ∈ p.st.lv, ∀ y ∈ p.st.lv, (f x.2).2 = (f y.2).2 → x.2 = y.2 := fun x hx y hy e => by
  obtain ⟨i, hi, ei⟩ := h.one hx
  obtain ⟨j, hj, ej⟩ := h.one hy
  rw [ei, ej] at e ⊢
  rw [h.inj i j hi hj e]
def updF (f : LfF) (v : Int) (z : Bytes × Int) : LfF := fun u => if u = v then z else f u
theorem updF_at (f : LfF) (v : Int) (z : Bytes × Int) : updF f v z v = z := if_pos rfl
theorem updF_ne (f : LfF) {v u : Int} (z : Bytes × Int) (h : u ≠ v) : updF f v z u = f u := if_neg h
theorem PlOK.old (h : PlOK p f n) {L : Nat} (hL : p.tx.length ≤ L) (z : Bytes × Int) : PlOK p (updF f (1000 + (L : Int)) z) (n + 1) := by
  have e : ∀ i : Nat, i < p.tx.length → updF f (1000 + (L : Int)) z (1000 + (i : Int)) = f (1000 + (i : Int)) := fun i hi => updF_ne f z (by omega)
  refine ⟨h.at_, fun i hi => ?_, fun i j hi hj hh => ?_⟩
  · rw [e i hi]; have := h.tx i hi; exact ⟨this.1, this.2.1, by omega⟩
  · rw [e i hi, e j hj] at hh; exact h.inj i j hi hj hh
theorem PlOK.same (h : PlOK p f n) {L : Nat} (hL : p.tx.length ≤ L) (z : Bytes × Int) : ∀ x ∈ p.st.lv, f x.2 = updF f (1000 + (L : Int)) z x.2 := fun x hx => by
  have := h.at_ x hx
  rw [updF_ne f z (by omega)]
theorem PlOK.new (h : PlOK p f n) {st' : Sta} (text : Bytes) (hst : ∀ x ∈ st'.lv, (∃ y ∈ p.st.lv, y.2 = x.2) ∨ x.2 = 1000 + (p.tx.length : Int)) : PlOK ⟨st', p.tx ++ [text]⟩ (updF f (1000 + (p.tx.length : Int)) (text, (n : Int) + 1)) (n + 1) := by
  have hl : (p.tx ++ [text]).length = p.tx.length + 1 := by simp
  have e : ∀ i : Nat, i < p.tx.length → updF f (1000 + (p.tx.length : Int)) (text, (n : Int) + 1) (1000 + (i : Int)) = f (1000 + (i : Int)) := fun i hi => updF_ne f _ (by omega)
  refine ⟨fun x hx => ?_, fun i hi => ?_, fun i j hi hj hh => ?_⟩
  · show 1000 ≤ x.2 ∧ x.2 < 1000 + (((p.tx ++ [text]).length : Nat) : Int)
    rw [hl]
    rcases hst x hx with ⟨y, hy, e⟩ | e
    · have := h.at_ y hy; omega
    · omega
  · have hi : i < (p.tx ++ [text]).length := hi
    by_cases e1 : i < p.tx.length
    · rw [e i e1]
      have := h.tx i e1
      refine ⟨?_, this.2.1, by omega⟩
      rw [this.1]
      exact (List.getElem_append_left e1).symm
    · have e2 : i = p.tx.length := by omega
      subst e2
      rw [updF_at]
      refine ⟨?_, by show 1 ≤ (n : Int) + 1; omega, by show (n : Int) + 1 ≤ _; omega⟩
      simp
  · have hi : i < (p.tx ++ [text]).length := hi
    have hj : j < (p.tx ++ [text]).length := hj
    by_cases e1 : i < p.tx.length
    · by_cases e2 : j < p.tx.length
      · rw [e i e1, e j e2] at hh; exact h.inj i j e1 e2 hh
      · have e3 : j = p.tx.length := by omega
        subst e3
        rw [e i e1, updF_at] at hh
        have := (h.tx i e1).2.2
        simp only at hh
        omega
    · have e3 : i = p.tx.length := by omega
      subst e3
      by_cases e2 : j < p.tx.length
      · rw [e j e2, updF_at] at hh
        have := (h.tx j e2).2.2
        simp only at hh
        omega
      · omega
/-- Records that put no page bring no other place. -/
theorem applyS_vals {st : Sta} (w : SaW st) {x : RecT} (hk : x.1 = 2 ∨ (4 ≤ x.1 ∧ x.1 ≤ 7)) : ∀ y ∈ (st.applyS x).2.lv, ∃ z ∈ st.lv, z.2 = y.2 := by
  unfold Sta.applyS
  rw [if_neg (show ¬ x.1 = 3 by omega), if_neg (show ¬ x.1 = 8 by omega), if_neg (show ¬ x.1 = 9 by omega)]
  by_cases k4 : x.1 = 4
  · rw [if_pos k4]
    unfold Sta.openS
    split
    · exact fun y hy => ⟨y, hy, rfl⟩
    · exact fun y hy => ⟨y, hy, rfl⟩
  rw [if_neg k4]
  cases hf : afind st.sp x.2.1 with
  | none => exact fun y hy => ⟨y, hy, rfl⟩
  | some s =>
    simp only
    rw [if_neg (show ¬ x.1 = 1 by omega)]
    by_cases k2 : x.1 = 2
    · rw [if_pos k2]
      split
      · exact fun y hy => ⟨y, (adrop_sub _ _).subset hy, rfl⟩
      · exact fun y hy => ⟨y, hy, rfl⟩
    rw [if_neg k2]
    by_cases k5 : x.1 = 5
    · rw [if_pos k5]
      exact fun y hy => ⟨y, (List.mem_filter.1 hy).1, rfl⟩
    rw [if_neg k5]
    by_cases k6 : x.1 = 6
    · rw [if_pos k6]
      unfold Sta.openS
      split
      · exact fun y hy => ⟨y, hy, rfl⟩
      · intro y hy
        have hf : afind (insAll x.2.2.2.2.1 st.lv (pgs st.lv x.2.1)) y.1 = some y.2 := (insAll_asc w.lv).find hy
        rw [insAll_find y.1 w.lv (pgs_asc w.lv _)] at hf
        cases hg : afind (pgs st.lv x.2.1) (y.1 - x.2.2.2.2.1 * 1024) with
        | some u =>
          rw [hg] at hf
          cases hf
          exact ⟨_, (pgs_mem (afind_mem hg)).2.2, rfl⟩
        | none =>
          rw [hg] at hf
          exact ⟨_, afind_mem hf, rfl⟩
    rw [if_neg k6]
    exact fun y hy => ⟨y, hy, rfl⟩
theorem PlOK.step (h : PlOK p f n) (w : SaW p.st) {x : RecT} (hk : x.1 = 2 ∨ (4 ≤ x.1 ∧ x.1 ≤ 7)) : PlOK ⟨(p.st.applyS x).2, p.tx⟩ f n :=
  ⟨fun y hy => by
    obtain ⟨z, hz, e⟩ := applyS_vals w hk y hy
    rw [← e]
    exact h.at_ z hz, h.tx, h.inj⟩
end
structure MdA where
  nm : Nat
  np : Int → Nat
  om : Option Nat
  op : Int → Nat
  f : LfF
  n : Nat
def mdC (a : MdA) (r : RoomT) (size many : Int) : Blk := .cells [.mp (some a.nm), .mp a.om, .int .i64 r.1, .int .i64 r.2.1, .int .i64 r.2.2.1, .int .i64 r.2.2.2.1, .int .i64 size, .int .i64 many, .int .i64 (a.n : Int)] .exact
def opnAt (H : Heap) (a : MdA) (now : Pln) (many : Int) : Option Tx → Prop
  | none => a.om = none
  | some t => ∃ m, a.om = some m ∧ TrAt H m a.op a.f t.p.st ∧ PlOK t.p a.f a.n ∧ now.tx.length ≤ t.p.tx.length ∧ many = (t.many : Int) ∧ t.many ≤ 8
structure MdAt (H : Heap) (c : Nat) (a : MdA) (r : RoomT) (size many : Int) (now : Pln) (o : Option Tx) : Prop where
  c : H[c]? = some (mdC a r size many)
  nw : TrAt H a.nm a.np a.f now.st
  nok : PlOK now a.f a.n
  opn : opnAt H a now many o
section
variable {H G : Heap} {c : Nat} {a : MdA} {r : RoomT} {size many : Int} {now : Pln} {o : Option Tx}
theorem TrAt.ne {m : Nat} {pg : Int → Nat} {f : LfF} {st : Sta} (h : TrAt H m pg f st) {c : Nat} {cs : List C} {bk : BK} (hc : H[c]? = some (.cells cs bk)) : ∀ b, trF m pg st b → b ≠ c := by
  rintro b (rfl | ⟨id, x, hx, rfl⟩)
  · exact mp_ne hc h.sp
  · exact mp_ne hc (h.pp id x hx)
theorem opnAt.keep (h : opnAt H a now many o) {F : Nat → Prop} (k : Keep F H G) (hF : ∀ b, (∃ t m, o = some t ∧ a.om = some m ∧ trF m a.op t.p.st b) → ¬ F b) : opnAt G a now many o := by
  cases o with
  | none => exact h
  | some t =>
    obtain ⟨m, e1, e2, e3⟩ := h
    exact ⟨m, e1, e2.keep k fun b hb => hF b ⟨t, m, rfl, e1, hb⟩, e3⟩
/-- Only its own box may change, or that of another one. -/
theorem MdAt.keep (h : MdAt H c a r size many now o) (k : Keep (fun _ => False) H G) : MdAt G c a r size many now o :=
  ⟨k.get h.c fun hf => hf, h.nw.keep k fun _ _ hf => hf, h.nok, h.opn.keep k fun _ _ hf => hf⟩
theorem MdAt.other (h : MdAt H c a r size many now o) {d : Nat} (hd : d ≠ c) {cs : List C} {bk : BK} (hb : H[d]? = some (.cells cs bk)) (k : Keep (fun b => b = d) H G) : MdAt G c a r size many now o :=
  ⟨k.get h.c (Ne.symm hd), h.nw.keep k fun b hb' e => h.nw.ne hb b hb' e, h.nok, h.opn.keep k fun b ⟨t, m, e1, e2, e3⟩ e => by
    have := h.opn
    rw [e1] at this
    obtain ⟨m', f1, f2, _⟩ := this
    rw [e2] at f1
    cases f1
    exact f2.ne hb b e3 e⟩
theorem md_Begin (h : MdAt H c a r size many now o) : WP (model_Model_Begin (some (c, 0)) H) fun x => Keep (fun b => b = c) H x.2 ∧ match o with
    | some _ => x.1.1 = 180 ∧ MdAt x.2 c a r size many now o
    | none => x.1.1 = 0 ∧ ∃ a', a'.n = a.n ∧ MdAt x.2 c a' r size 0 now (some ⟨now, 0⟩) := by
  unfold model_Model_Begin
  have hm : rdM H c (0 + 1) = some a.om := rdM_of h.c rfl
  refine wp_f rfl (wp_to (v := (c, 0)) rfl (wp_to hm ?_))
  cases o with
  | some t =>
    obtain ⟨m, e1, _⟩ := h.opn
    refine wp_t (by rw [e1]; rfl) (wp_some ⟨Keep.refl _ _, rfl, h⟩)
  | none =>
    have e1 : a.om = none := h.opn
    refine wp_f (by rw [e1]; rfl) (wp_to (v := (c, 0)) rfl (wp_to (rdM_of h.c (o := 0) rfl) (wp_seq _ (tr_clone h.nw) ?_)))
    rintro ⟨⟨x, ⟨⟩⟩, G⟩ ⟨m', pg', hx, ht, hk, hf⟩
    cases hx
    have hcl := get_lt h.c
    have hcG : G[c]? = some (mdC a r size many) := hk.get h.c fun hf => hf
    have hw1 : wr G c (0 + 1) [.mp (some m')] = some (G.set c (mdC { a with om := some m', op := pg' } r size many)) := by
      rw [wr1_of hcG (by decide) (by simp)]; rfl
    have hcG1 : (G.set c (mdC { a with om := some m', op := pg' } r size many))[c]? = some (mdC { a with om := some m', op := pg' } r size many) := set_get (get_lt hcG)
    have hw2 : wr (G.set c (mdC { a with om := some m', op := pg' } r size many)) c (0 + 7) [.int .i64 0] = some (G.set c (mdC { a with om := some m', op := pg' } r size 0)) := by
      rw [wr1_of hcG1 (by decide) (by simp), List.set_set]; rfl
    have kk : Keep (fun b => b = c) G (G.set c (mdC { a with om := some m', op := pg' } r size 0)) := Keep.set _ _ _ rfl
    have hnow := h.nw.keep hk fun _ _ hf => hf
    have ht : TrAt G m' pg' a.f now.st := ht
    refine wp_to (v := (c, 0)) rfl (wp_to hw1 (wp_to (v := (c, 0)) rfl (wp_to hw2 (wp_some ⟨(hk.mono fun _ hf => hf.elim).trans kk, rfl, { a with om := some m', op := pg' }, rfl, ?_⟩))))
    exact ⟨set_get (get_lt hcG), hnow.keep kk fun b hb e => hnow.ne hcG b hb e, h.nok, m', rfl, ht.keep kk fun b hb e => ht.ne hcG b hb e, h.nok, Nat.le_refl _, rfl, Nat.zero_le _⟩
theorem md_end (h : MdAt H c a r size many now o) (keep : Bool) : WP (model_Model_end (some (c, 0)) keep H) fun x => Keep (fun b => b = c) H x.2 ∧ match o with
    | none => x.1.1 = 180 ∧ MdAt x.2 c a r size many now o
    | some t => x.1.1 = 0 ∧ ∃ a', a'.n = a.n ∧ MdAt x.2 c a' r size many (if keep = true then t.p else now) none := by
  unfold model_Model_end
  have hm : rdM H c (0 + 1) = some a.om := rdM_of h.c rfl
  refine wp_f rfl (wp_to (v := (c, 0)) rfl (wp_to hm ?_))
  cases o with
  | none =>
    have e1 : a.om = none := h.opn
    exact wp_t (by rw [e1]; rfl) (wp_some ⟨Keep.refl _ _, rfl, h⟩)
  | some t =>
    obtain ⟨m, e1, e2, e3, _⟩ := h.opn
    have hcl := get_lt h.c
    refine wp_f (by rw [e1]; rfl) ?_
    cases keep with
    | true =>
      have hw1 : wr H c 0 [.mp a.om] = some (H.set c (mdC { a with nm := m, np := a.op } r size many)) := by
        rw [wr1_of h.c (by decide) (by simp), e1]; unfold mdC; simp [e1]
      have hcG1 : (H.set c (mdC { a with nm := m, np := a.op } r size many))[c]? = some (mdC { a with nm := m, np := a.op } r size many) := set_get hcl
      have hw2 : wr (H.set c (mdC { a with nm := m, np := a.op } r size many)) c (0 + 1) [.mp none] = some (H.set c (mdC { a with nm := m, np := a.op, om := none } r size many)) := by
        rw [wr1_of hcG1 (by decide) (by simp), List.set_set]; rfl
      have kk : Keep (fun b => b = c) H (H.set c (mdC { a with nm := m, np := a.op, om := none } r size many)) := Keep.set _ _ _ rfl
      refine wp_t rfl (wp_to (v := (c, 0)) rfl (wp_to hm (wp_to (v := (c, 0)) rfl (wp_to hw1 (wp_to (v := (c, 0)) rfl (wp_to hw2 (wp_some ⟨kk, rfl, { a with nm := m, np := a.op, om := none }, rfl, ?_⟩)))))))
      exact ⟨set_get hcl, e2.keep kk fun b hb e => e2.ne h.c b hb e, e3, rfl⟩
    | false =>
      have hw2 : wr H c (0 + 1) [.mp none] = some (H.set c (mdC { a with om := none } r size many)) := by
        rw [wr1_of h.c (by decide) (by simp)]; rfl
      have kk : Keep (fun b => b = c) H (H.set c (mdC { a with om := none } r size many)) := Keep.set _ _ _ rfl
      refine wp_f rfl (wp_to (v := (c, 0)) rfl (wp_to hw2 (wp_some ⟨kk, rfl, { a with om := none }, rfl, ?_⟩)))
      exact ⟨set_get hcl, h.nw.keep kk fun b hb e => h.nw.ne h.c b hb e, h.nok, rfl⟩
end
end Ev

namespace Ev
open Go (IntKind)

section
variable {H G : Heap} {c : Nat} {a : MdA} {r : RoomT} {size many : Int} {now : Pln} {o : Option Tx} {t : Tx}
theorem rd_room {a' : MdA} {many' : Int} (h : G[c]? = some (mdC a' r size many')) : rd G (.agg [.int .i64, .int .i64, .int .i64, .int .i64]) c (0 + 2) = (some r : Option RoomT) :=
  rd_agg_of h (by simp) (by obtain ⟨r1, r2, r3, r4, ⟨⟩⟩ := r; rfl)
/-- The changed tree is taken. -/
theorem md_take {n' : Nat} {f' : LfF} {m' : Nat} {pg' : Int → Nat} {t' : Tx} {om : Option Nat} {op : Int → Nat} (hc : G[c]? = some (mdC { a with om := om, op := op, f := f', n := n' } r size t.many)) (hnow : TrAt G a.nm a.np f' now.st) (hnok : PlOK now f' n') (ht : TrAt G m' pg' f' t'.p.st) (htok : PlOK t'.p f' n') (hl : now.tx.length ≤ t'.p.tx.length) (hm : t'.many = t.many + 1) (h8 : t.many < 8)
    {β : Type} {K : Heap → Option β} {Q : β → Prop} (k : ∀ G' a', a'.n = n' → MdAt G' c a' r size (t'.many : Int) now (some t') → Keep (fun b => b = c) G G' → WP (K G') Q) :
    WP (((some (c, 0) : Ptr)).bind fun (a10 : Nat × Nat) => (wr G a10.1 (a10.2 + 1) [.mp (some m')]).bind fun (H11 : Heap) => ((some (c, 0) : Ptr)).bind fun (a12 : Nat × Nat) => (rdI .i64 H11 a12.1 (a12.2 + 7)).bind fun (v13 : Int) => ((some (c, 0) : Ptr)).bind fun (a14 : Nat × Nat) => (wr H11 a14.1 (a14.2 + 7) [.int .i64 (IntKind.wrap .i64 (v13 + 1))]).bind K) Q := by
  have hcl := get_lt hc
  have hw1 : wr G c (0 + 1) [.mp (some m')] = some (G.set c (mdC { a with om := some m', op := pg', f := f', n := n' } r size t.many)) := by
    rw [wr1_of hc (by decide) (by simp)]; rfl
  have hc1 : (G.set c (mdC { a with om := some m', op := pg', f := f', n := n' } r size t.many))[c]? = some (mdC { a with om := some m', op := pg', f := f', n := n' } r size t.many) := set_get hcl
  have hw2 : wr (G.set c (mdC { a with om := some m', op := pg', f := f', n := n' } r size t.many)) c (0 + 7) [.int .i64 (IntKind.wrap .i64 ((t.many : Int) + 1))] = some (G.set c (mdC { a with om := some m', op := pg', f := f', n := n' } r size t'.many)) := by
    rw [wr1_of hc1 (by decide) (by simp), List.set_set, wrap_succ (by omega), hm]; rfl
  have kk : Keep (fun b => b = c) G (G.set c (mdC { a with om := some m', op := pg', f := f', n := n' } r size t'.many)) := Keep.set _ _ _ rfl
  refine wp_to (v := (c, 0)) rfl (wp_to hw1 (wp_to (v := (c, 0)) rfl (wp_to (rdI_of hc1 (n := (t.many : Int)) rfl) (wp_to (v := (c, 0)) rfl (wp_to hw2 (k _ { a with om := some m', op := pg', f := f', n := n' } rfl ?_ kk))))))
  exact ⟨set_get hcl, hnow.keep kk fun b hb e => hnow.ne hc b hb e, hnok, m', rfl, ht.keep kk fun b hb e => ht.ne hc b hb e, htok, hl, rfl, by omega⟩
theorem md_stepD (h : MdAt H c a r size many now (some t)) {x : RecT} {b : Nat} (hb : H[b]? = some (recB x)) (g : GoodR x) (hk : x.1 = 2 ∨ (4 ≤ x.1 ∧ x.1 ≤ 7)) :
    WP (model_Model_step_of_model_Model_Do_1 (some (c, 0)) (some (b, 0), ()) H) fun y => Keep (fun b => b = c) H y.2 ∧ y.1.1 = (t.stepD x r).1 ∧ ∃ a' many', a'.n = a.n ∧ MdAt y.2 c a' r size many' now (some (t.stepD x r).2) := by
  obtain ⟨m, e1, e2, e3, e4, e5, e6⟩ := h.opn
  have hF : ∀ {G : Heap}, Keep (fun _ => False) H G → Keep (fun b => b = c) H G := fun k => k.mono fun _ hf => hf.elim
  unfold model_Model_step_of_model_Model_Do_1 Tx.stepD
  refine wp_to (v := (c, 0)) rfl (wp_to (rdI_of h.c (n := many) rfl) (wp_if (p := 8 ≤ t.many) (decide_eq_decide.2 (by rw [e5]; omega)) (fun e => ?_) (fun e => ?_)))
  · rw [if_pos e]
    exact wp_some ⟨Keep.refl _ _, rfl, a, many, rfl, h⟩
  rw [if_neg e]
  refine wp_to (v := (c, 0)) rfl (wp_to (rdM_of h.c (n := a.om) rfl) ?_)
  rw [e1]
  refine wp_seq _ (tr_clone e2) ?_
  rintro ⟨⟨y, ⟨⟩⟩, G1⟩ ⟨m', pg', hx, ht, hk1, hf1⟩
  cases hx
  have ht : TrAt G1 m' pg' a.f t.p.st := ht
  have hk1 : Keep (fun _ => False) H G1 := hk1
  have hb1 := hk1.get hb fun hf => hf
  refine wp_seq (fun y => y.1.1 = (t.p.st.applyS x).1 ∧ ∃ pg2, TrAt y.2 m' pg2 a.f (t.p.st.applyS x).2 ∧ Keep (trF m' pg' t.p.st) G1 y.2) ?_ ?_
  · unfold model_Model_Do_1
    refine wp_to (v := (b, 0)) rfl (wp_to (v := (x : RecT)) (rd_agg_of hb1 (by simp) (by obtain ⟨x0, x1, x2, x3, x4, x5, ⟨⟩⟩ := x; rfl)) (wp_seq _ (tr_do (x := x) ht g hk) ?_))
    rintro ⟨⟨y, ⟨⟩⟩, G2⟩ hy
    exact wp_some hy
  rintro ⟨⟨ee, ⟨⟩⟩, G2⟩ ⟨he, pg2, ht2, hk2⟩
  have he : ee = (t.p.st.applyS x).1 := he
  have ht2 : TrAt G2 m' pg2 a.f (t.p.st.applyS x).2 := ht2
  have hk02 : Keep (fun _ => False) H G2 := (hk1.mono fun _ hf => hf).trans2 hk2 fun b hbl hb' => by have := hf1 b hb'; omega
  have h2 := h.keep hk02
  refine wp_if (p := ¬ ee = 0) (by simp) (fun e0 => ?_) (fun e0 => ?_)
  · rw [he] at e0
    rw [if_pos e0]
    exact wp_some ⟨hF hk02, he, a, many, rfl, h2⟩
  have e0' : ee = 0 := Decidable.byContradiction e0
  rw [he] at e0
  rw [if_neg e0]
  have htok : PlOK ⟨(t.p.st.applyS x).2, t.p.tx⟩ a.f a.n := e3.step e2.w hk
  refine wp_to (v := (c, 0)) rfl (wp_to (rd_room h2.c) (wp_seq _ (tr_fits ht2 r htok.inj') ?_))
  rintro ⟨⟨ff, ⟨⟩⟩, G3⟩ ⟨hfit, hk3⟩
  have hfit : ff = fitS (t.p.st.applyS x).2 r := hfit
  subst hfit
  have hk03 := hk02.trans hk3
  have h3 := h.keep hk03
  have ht3 : TrAt G3 m' pg2 a.f (t.p.st.applyS x).2 := ht2.keep hk3 fun _ _ hf => hf
  refine wp_c (fun e9 => ?_) (fun e9 => ?_)
  · have e9 : ¬ fitS (t.p.st.applyS x).2 r = true := by simpa using e9
    rw [if_neg e9]
    exact wp_some ⟨hF hk03, rfl, a, many, rfl, h3⟩
  · have e9 : fitS (t.p.st.applyS x).2 r = true := by simpa using e9
    rw [if_pos e9]
    have hc3 : G3[c]? = some (mdC { a with om := a.om, op := a.op, f := a.f, n := a.n } r size t.many) := by rw [← e5]; exact h3.c
    refine md_take (t := t) (t' := ⟨⟨(t.p.st.applyS x).2, t.p.tx⟩, t.many + 1⟩) hc3 h3.nw h3.nok ht3 htok e4 rfl (by omega) fun G' a' ha' hM hkM => wp_some ⟨(hF hk03).trans hkM, rfl, a', _, ha', hM⟩
theorem may_zero {st : Sta} {id : Int} (h : mayS st id = 0) : ∃ q, afind st.sp id = some (q, false) := by
  unfold mayS at h
  cases hf : afind st.sp id with
  | none => rw [hf] at h; simp at h
  | some y =>
    rw [hf] at h
    obtain ⟨q, b⟩ := y
    cases b with
    | false => exact ⟨q, rfl⟩
    | true => simp at h
theorem put_apply {st : Sta} {id p v : Int} {y : Int × Bool} (hf : afind st.sp id = some y) : st.applyS (1, id, p, v, 0, 0, ()) = if p < 0 then (81, st) else if y.1 ≤ p then (81, st) else (0, ⟨st.sp, ains st.lv (id * 1024 + p) v, st.bd, st.wn⟩) := by
  unfold Sta.applyS
  show (match afind st.sp id with | none => _ | some s => _) = _
  rw [hf]; rfl
theorem md_stepP (h : MdAt H c a r size many now (some t)) {id p : Int} {text : Bytes} {bp bi bs bt : Nat} (hbp : H[bp]? = some (.cells [.int .i64 p] .exact)) (hbi : H[bi]? = some (.cells [.int .i64 id] .exact)) (hbs : H[bs]? = some (.cells [.ptr (some (c, 0))] .exact)) (hbt : H[bt]? = some (.cells [.str text] .exact))
    (hmay : mayS t.p.st id = 0) (hn : a.n < 4611686018427387904) :
    WP (model_Model_step_of_model_Model_Put_1 (some (c, 0)) (some (bp, 0), some (bi, 0), some (bs, 0), some (bt, 0), ()) H) fun y => Keep (fun b => b = c) H y.2 ∧ y.1.1 = (t.stepP id p text r).1 ∧ ∃ a' many', a'.n ≤ a.n + 1 ∧ MdAt y.2 c a' r size many' now (some (t.stepP id p text r).2) := by
  obtain ⟨m, e1, e2, e3, e4, e5, e6⟩ := h.opn
  obtain ⟨q, hq⟩ := may_zero hmay
  have hF : ∀ {G : Heap}, Keep (fun _ => False) H G → Keep (fun b => b = c) H G := fun k => k.mono fun _ hf => hf.elim
  have hid := e2.w.ids _ (afind_mem hq)
  unfold model_Model_step_of_model_Model_Put_1 Tx.stepP putR
  rw [put_apply hq]
  refine wp_to (v := (c, 0)) rfl (wp_to (rdI_of h.c (n := many) rfl) (wp_if (p := 8 ≤ t.many) (decide_eq_decide.2 (by rw [e5]; omega)) (fun e => ?_) (fun e => ?_)))
  · rw [if_pos e]
    exact wp_some ⟨Keep.refl _ _, rfl, a, many, by omega, h⟩
  rw [if_neg e]
  refine wp_to (v := (c, 0)) rfl (wp_to (rdM_of h.c (n := a.om) rfl) ?_)
  rw [e1]
  refine wp_seq _ (tr_clone e2) ?_
  rintro ⟨⟨y, ⟨⟩⟩, G1⟩ ⟨m', pg', hx, ht, hk1, hf1⟩
  cases hx
  have ht : TrAt G1 m' pg' a.f t.p.st := ht
  have hk1 : Keep (fun _ => False) H G1 := hk1
  have h1 := h.keep hk1
  have hp1 := hk1.get hbp fun hf => hf
  have hi1 := hk1.get hbi fun hf => hf
  have hs1 := hk1.get hbs fun hf => hf
  have ht1 := hk1.get hbt fun hf => hf
  have hsp := ht.sp.space id
  rw [hq] at hsp
  unfold model_Model_Put_1
  by_cases hp0 : p < 0
  · rw [if_pos hp0, if_pos (show ¬ (81 : Int) = 0 by decide)]
    refine wp_seq (fun y => y = ((81, ()), G1)) (wp_to (v := (bp, 0)) rfl (wp_to (rdI_of hp1 (n := p) rfl) (wp_t (decide_eq_true hp0) (wp_some rfl)))) ?_
    rintro _ rfl
    exact wp_t rfl (wp_some ⟨hF hk1, rfl, a, many, by omega, h1⟩)
  · rw [if_neg hp0]
    by_cases hpq : q ≤ p
    · rw [if_pos hpq, if_pos (show ¬ (81 : Int) = 0 by decide)]
      refine wp_seq (fun y => y = ((81, ()), G1)) (wp_to (v := (bp, 0)) rfl (wp_to (rdI_of hp1 (n := p) rfl) (wp_f (decide_eq_false hp0) (wp_to (v := (bp, 0)) rfl (wp_to (rdI_of hp1 (n := p) rfl) (wp_to (v := (bi, 0)) rfl (wp_to (rdI_of hi1 (n := id) rfl) (wp_to hsp (wp_t (decide_eq_true hpq) (wp_some rfl)))))))))) ?_
      rintro _ rfl
      exact wp_t rfl (wp_some ⟨hF hk1, rfl, a, many, by omega, h1⟩)
    · rw [if_neg hpq, if_neg (show ¬ ¬ (0 : Int) = 0 by decide)]
      have hcl := get_lt h1.c
      have hpb : 0 ≤ p ∧ p < 1024 := by have := hid.2.2; simp only at this; omega
      -- the number rises
      have hw1 : wr G1 c (0 + 8) [.int .i64 (IntKind.wrap .i64 ((a.n : Int) + 1))] = some (G1.set c (mdC { a with n := a.n + 1 } r size many)) := by
        rw [wr1_of h1.c (by decide) (by simp), wrap_succ (by omega)]; rfl
      have kk : Keep (fun b => b = c) G1 (G1.set c (mdC { a with n := a.n + 1 } r size many)) := Keep.set _ _ _ rfl
      have hc2 : (G1.set c (mdC { a with n := a.n + 1 } r size many))[c]? = some (mdC { a with n := a.n + 1 } r size many) := set_get hcl
      have hcne : ∀ {b : Nat} {cs : List C}, G1[b]? = some (.cells cs .exact) → cs.length < 9 → b ≠ c := fun hb hl e => by
        rw [e, h1.c] at hb
        unfold mdC at hb
        injection hb with hb
        injection hb with hb
        rw [← hb] at hl
        simp at hl
      have hp2 := kk.get hp1 (hcne hp1 (by simp))
      have hi2 := kk.get hi1 (hcne hi1 (by simp))
      have hs2 := kk.get hs1 (hcne hs1 (by simp))
      have ht2 := kk.get ht1 (hcne ht1 (by simp))
      have htr2 := ht.keep kk fun b hb e => ht.ne h1.c b hb e
      have hnow2 := h1.nw.keep kk fun b hb e => h1.nw.ne h1.c b hb e
      have hsp2 := htr2.sp.space id
      rw [hq] at hsp2
      obtain ⟨dp, hP⟩ := htr2.pp id (q, false) hq
      -- the page
      have hset : mset (G1.set c (mdC { a with n := a.n + 1 } r size many)) (some (pg' id)) p (.agg [.str text, .int .i64 ((a.n : Int) + 1)]) = some ((G1.set c (mdC { a with n := a.n + 1 } r size many)).set (pg' id) (.mp (encA (lfW (updF a.f (1000 + (t.p.tx.length : Int)) (text, (a.n : Int) + 1))) (pgs (ains t.p.st.lv (id * 1024 + p) (1000 + (t.p.tx.length : Int))) id)) dp)) := by
        have hP' : (G1.set c (mdC { a with n := a.n + 1 } r size many))[pg' id]? = some (.mp (encA (lfW (updF a.f (1000 + (t.p.tx.length : Int)) (text, (a.n : Int) + 1))) (pgs t.p.st.lv id)) dp) := by
          rw [hP, enc_congr (f := lfW a.f) (g := lfW (updF a.f (1000 + (t.p.tx.length : Int)) (text, (a.n : Int) + 1))) fun y hy => by
            have := e3.same (Nat.le_refl _) (text, (a.n : Int) + 1) _ (pgs_mem hy).2.2
            unfold lfW
            rw [show a.f y.2 = _ from this]]
        rw [mset_of hP' p (1000 + (t.p.tx.length : Int)) (by unfold lfW; rw [updF_at]), pgs_ins e2.w.lv id p _ hpb id, if_pos rfl]
      have w' : SaW ⟨t.p.st.sp, ains t.p.st.lv (id * 1024 + p) (1000 + (t.p.tx.length : Int)), t.p.st.bd, t.p.st.wn⟩ := e2.w.key hq hpb _
      obtain ⟨u1, u2⟩ := htr2.page (dc := dp) hq hpb w' (e3.same (Nat.le_refl _) (text, (a.n : Int) + 1)) fun id' hne => by rw [pgs_ins e2.w.lv id p _ hpb id', if_neg hne]
      generalize hG3 : (G1.set c (mdC { a with n := a.n + 1 } r size many)).set (pg' id) (.mp (encA (lfW (updF a.f (1000 + (t.p.tx.length : Int)) (text, (a.n : Int) + 1))) (pgs (ains t.p.st.lv (id * 1024 + p) (1000 + (t.p.tx.length : Int))) id)) dp) = G3 at hset u1 u2
      have hpgl := hf1 (pg' id) (.inr ⟨id, _, hq, rfl⟩)
      have hpgc : pg' id ≠ c := ht.ne h1.c _ (.inr ⟨id, _, hq, rfl⟩)
      refine wp_seq (fun y => y = ((0, ()), G3)) ?_ ?_
      · refine wp_to (v := (bp, 0)) rfl (wp_to (rdI_of hp1 (n := p) rfl) (wp_f (decide_eq_false hp0) (wp_to (v := (bp, 0)) rfl (wp_to (rdI_of hp1 (n := p) rfl) (wp_to (v := (bi, 0)) rfl (wp_to (rdI_of hi1 (n := id) rfl) (wp_to hsp (wp_f (decide_eq_false hpq) ?_))))))))
        refine wp_to (v := (bs, 0)) rfl (wp_to (rdP_of hs1 (n := some (c, 0)) rfl) (wp_to (v := (c, 0)) rfl (wp_to (rdI_of h1.c (n := (a.n : Int)) rfl) (wp_to (v := (c, 0)) rfl (wp_to hw1 ?_)))))
        refine wp_to (v := (bi, 0)) rfl (wp_to (rdI_of hi2 (n := id) rfl) (wp_to hsp2 (wp_to (v := (bp, 0)) rfl (wp_to (rdI_of hp2 (n := p) rfl) (wp_to (v := (bt, 0)) rfl (wp_to (rdS_of ht2 (n := text) rfl) (wp_to (v := (bs, 0)) rfl (wp_to (rdP_of hs2 (n := some (c, 0)) rfl) (wp_to (v := (c, 0)) rfl (wp_to (rdI_of hc2 (n := (a.n : Int) + 1) rfl) (wp_to hset (wp_some rfl))))))))))))
      rintro _ rfl
      have hk03 : Keep (fun b => b = c) H G3 := ((hF hk1).trans kk).trans2 u2 fun b hb e => by have e : b = pg' id := e; omega
      have hlow : ∀ {m : Nat} {pg : Int → Nat} {f : LfF} {st : Sta}, TrAt H m pg f st → ∀ b, trF m pg st b → ¬ b = pg' id := fun hh b hb e => by have := hh.lt hb; omega
      have hc3 : G3[c]? = some (mdC { a with n := a.n + 1 } r size many) := u2.get hc2 (Ne.symm hpgc)
      have hnow3 : TrAt G3 a.nm a.np (updF a.f (1000 + (t.p.tx.length : Int)) (text, (a.n : Int) + 1)) now.st := (hnow2.congr (h.nok.same e4 _)).keep u2 (hlow h.nw)
      have hnok3 := h.nok.old e4 (text, (a.n : Int) + 1)
      have hopn3 : TrAt G3 m a.op (updF a.f (1000 + (t.p.tx.length : Int)) (text, (a.n : Int) + 1)) t.p.st := by
        have h4 := e2.keep hk1 fun _ _ hf => hf
        exact ((h4.keep kk fun b hb e => h4.ne h1.c b hb e).congr (e3.same (Nat.le_refl _) _)).keep u2 (hlow e2)
      have htok3 := e3.old (Nat.le_refl _) (text, (a.n : Int) + 1)
      have htok4 : PlOK ⟨⟨t.p.st.sp, ains t.p.st.lv (id * 1024 + p) (1000 + (t.p.tx.length : Int)), t.p.st.bd, t.p.st.wn⟩, t.p.tx ++ [text]⟩ (updF a.f (1000 + (t.p.tx.length : Int)) (text, (a.n : Int) + 1)) (a.n + 1) := e3.new text fun x hx => by
        rcases ains_mem hx with e | e
        · exact .inr (by rw [e])
        · exact .inl ⟨x, e, rfl⟩
      refine wp_f (by simp) (wp_to (v := (c, 0)) rfl (wp_to (rd_room hc3) (wp_seq _ (tr_fits u1 r htok4.inj') ?_)))
      rintro ⟨⟨ff, ⟨⟩⟩, G4⟩ ⟨hfit, hk4⟩
      have hfit : ff = fitS ⟨t.p.st.sp, ains t.p.st.lv (id * 1024 + p) (1000 + (t.p.tx.length : Int)), t.p.st.bd, t.p.st.wn⟩ r := hfit
      subst hfit
      have hk4 : Keep (fun _ => False) G3 G4 := hk4
      have hc4 := hk4.get hc3 fun hf => hf
      have hk04 := hk03.trans (hk4.mono fun _ hf => hf.elim)
      refine wp_c (fun e9 => ?_) (fun e9 => ?_)
      · have e9 : ¬ fitS ⟨t.p.st.sp, ains t.p.st.lv (id * 1024 + p) (1000 + (t.p.tx.length : Int)), t.p.st.bd, t.p.st.wn⟩ r = true := by simpa using e9
        rw [if_neg e9]
        refine wp_some ⟨hk04, rfl, { a with n := a.n + 1, f := updF a.f (1000 + (t.p.tx.length : Int)) (text, (a.n : Int) + 1) }, many, Nat.le_refl _, hc4, hnow3.keep hk4 fun _ _ hf => hf, hnok3, m, e1, hopn3.keep hk4 fun _ _ hf => hf, htok3, e4, e5, e6⟩
      · have e9 : fitS ⟨t.p.st.sp, ains t.p.st.lv (id * 1024 + p) (1000 + (t.p.tx.length : Int)), t.p.st.bd, t.p.st.wn⟩ r = true := by simpa using e9
        rw [if_pos e9]
        have hc4' : G4[c]? = some (mdC { a with om := a.om, op := a.op, f := updF a.f (1000 + (t.p.tx.length : Int)) (text, (a.n : Int) + 1), n := a.n + 1 } r size t.many) := by rw [← e5]; exact hc4
        refine md_take (t := t) (t' := ⟨⟨⟨t.p.st.sp, ains t.p.st.lv (id * 1024 + p) (1000 + (t.p.tx.length : Int)), t.p.st.bd, t.p.st.wn⟩, t.p.tx ++ [text]⟩, t.many + 1⟩) hc4' (hnow3.keep hk4 fun _ _ hf => hf) hnok3 (u1.keep hk4 fun _ _ hf => hf) htok4 (by simp; omega) rfl (by omega) fun G' a' ha' hM hkM => wp_some ⟨hk04.trans hkM, rfl, a', _, by omega, hM⟩
end
end Ev

namespace Ev
open Go (IntKind)

def doO (o : Option Tx) (x : RecT) (r : RoomT) : Int × Option Tx := match o with | none => (180, none) | some t => ((t.doS x r).1, some (t.doS x r).2)
def putO (o : Option Tx) (id p : Int) (text : Bytes) (r : RoomT) (size : Int) : Int × Option Tx := match o with | none => (180, none) | some t => ((t.putS id p text r size).1, some (t.putS id p text r size).2)
section
variable {H G : Heap} {c : Nat} {a : MdA} {r : RoomT} {size many : Int} {now : Pln} {o : Option Tx} {t : Tx}
theorem md_New (H : Heap) (r : RoomT) (size : Int) : ∃ c G, model_New r size H = some ((some (c, 0), ()), G) ∧ H.length ≤ c ∧ Keep (fun _ => False) H G ∧ ∃ a, a.n = 0 ∧ MdAt G c a r size 0 ⟨⟨[], [], [], []⟩, []⟩ none := by
  obtain ⟨r1, r2, r3, r4, ⟨⟩⟩ := r
  refine ⟨H.length + 2, H ++ [.cells [.int .i64 r1, .int .i64 r2, .int .i64 r3, .int .i64 r4] .exact, .mp [] 0, mdC ⟨H.length + 1, fun _ => 0, none, fun _ => 0, fun _ => ([], 0), 0⟩ (r1, r2, r3, r4, ()) size 0], ?_, by omega, Keep.app _ _ _, ⟨H.length + 1, fun _ => 0, none, fun _ => 0, fun _ => ([], 0), 0⟩, rfl, ?_, ⟨⟨Asc.nil, Asc.nil, Asc.nil, Asc.nil, fun x hx => absurd hx List.not_mem_nil, fun x hx => absurd hx List.not_mem_nil, fun x hx => absurd hx List.not_mem_nil, fun x hx => absurd hx List.not_mem_nil⟩, ⟨0, ?_⟩, fun id x hx => (by cases hx), fun id x hx => (by cases hx), fun id x id' x' hx => (by cases hx)⟩, ⟨fun x hx => absurd hx List.not_mem_nil, fun i hi => absurd hi (Nat.not_lt_zero _), fun i j hi => absurd hi (Nat.not_lt_zero _)⟩, rfl⟩
  · have hr : rd (H ++ [Blk.cells [.int .i64 r1, .int .i64 r2, .int .i64 r3, .int .i64 r4] .exact] ++ [.mp [] 0]) (.agg [.int .i64, .int .i64, .int .i64, .int .i64]) H.length 0 = (some (r1, r2, r3, r4, ()) : Option RoomT) :=
      rd_agg_of (cs := [.int .i64 r1, .int .i64 r2, .int .i64 r3, .int .i64 r4]) (bk := .exact) (by rw [List.append_assoc, tl_get0]; rfl) (by simp) rfl
    unfold model_New
    refine (bind_to hr).trans ?_
    simp [mdC]
  · rw [tl_get1]; rfl
  · rw [tl_get1]; rfl
theorem md_Do (h : MdAt H c a r size many now o) (x : RecT) : WP (model_Model_Do (some (c, 0)) x H) fun y => Keep (fun b => b = c) H y.2 ∧ y.1.1 = (doO o x r).1 ∧ ∃ a' many', a'.n = a.n ∧ MdAt y.2 c a' r size many' now (doO o x r).2 := by
  have k1 := Keep.app (fun _ => False) H [.cells [.int .i64 x.1, .int .i64 x.2.1, .int .i64 x.2.2.1, .int .i64 x.2.2.2.1, .int .i64 x.2.2.2.2.1, .int .i64 x.2.2.2.2.2.1] .exact]
  have t1 : (H ++ [Blk.cells [.int .i64 x.1, .int .i64 x.2.1, .int .i64 x.2.2.1, .int .i64 x.2.2.2.1, .int .i64 x.2.2.2.2.1, .int .i64 x.2.2.2.2.2.1] .exact])[H.length]? = some (recB x) := by rw [tl_get0]; rfl
  have h1 := h.keep k1
  unfold model_Model_Do
  simp only
  generalize H ++ [Blk.cells [.int .i64 x.1, .int .i64 x.2.1, .int .i64 x.2.2.1, .int .i64 x.2.2.2.1, .int .i64 x.2.2.2.2.1, .int .i64 x.2.2.2.2.2.1] .exact] = H1 at k1 t1 h1 ⊢
  have hF : ∀ {A B : Heap}, Keep (fun _ => False) A B → Keep (fun b => b = c) A B := fun k => k.mono fun _ hf => hf.elim
  refine wp_seq (fun p => p = ((ownK x, ()), H1)) ?_ ?_
  · refine wp_to (rdI_of t1 (n := x.1) rfl) (wp_if (p := x.1 = 2) rfl (fun e => ?_) (fun e => ?_))
    · exact wp_some (by unfold ownK; rw [decide_eq_true (.inl e)])
    · refine wp_to (rdI_of t1 (n := x.1) rfl) (wp_if (p := 4 ≤ x.1) rfl (fun e2 => ?_) (fun e2 => ?_))
      · refine wp_to (rdI_of t1 (n := x.1) rfl) (wp_some ?_)
        unfold ownK
        by_cases e3 : x.1 ≤ 7
        · rw [decide_eq_true e3, decide_eq_true (.inr ⟨e2, e3⟩)]
        · rw [decide_eq_false e3, decide_eq_false fun hh => hh.elim e fun hh => e3 hh.2]
      · exact wp_some (by unfold ownK; rw [decide_eq_false fun hh => hh.elim e fun hh => e2 hh.1])
  rintro _ rfl
  refine wp_f rfl (wp_to (v := (c, 0)) rfl (wp_to (rdM_of h1.c (n := a.om) rfl) ?_))
  cases o with
  | none =>
    have e1 : a.om = none := h.opn
    exact wp_t (by rw [e1]; rfl) (wp_some ⟨hF k1, rfl, a, many, rfl, h1⟩)
  | some t =>
    obtain ⟨m, e1, e2, _⟩ := h1.opn
    show WP _ fun (y : (Int × Unit) × Heap) => Keep (fun b => b = c) H y.2 ∧ y.1.1 = (t.doS x r).1 ∧ ∃ a' many', a'.n = a.n ∧ MdAt y.2 c a' r size many' now (some (t.doS x r).2)
    unfold Tx.doS
    refine wp_f (by rw [e1]; rfl) (wp_c (fun eo => ?_) (fun eo => ?_))
    · have eo : ¬ ownK x = true := by simpa using eo
      rw [if_neg fun hh => eo hh.1]
      exact wp_some ⟨hF k1, rfl, a, many, rfl, h1⟩
    have eo : ownK x = true := by simpa using eo
    have hk : x.1 = 2 ∨ (4 ≤ x.1 ∧ x.1 ≤ 7) := by unfold ownK at eo; exact of_decide_eq_true eo
    have hrec : rec_Check (x.1, x.2.1, x.2.2.1, x.2.2.2.1, x.2.2.2.2.1, x.2.2.2.2.2.1, ()) = some (chkR x, ()) := by
      obtain ⟨x0, x1, x2, x3, x4, x5, ⟨⟩⟩ := x
      exact rec_check_eq _
    refine wp_to (v := (x : RecT)) (rd_agg_of t1 (by simp) (by obtain ⟨x0, x1, x2, x3, x4, x5, ⟨⟩⟩ := x; rfl)) (wp_to hrec (wp_c (fun ec => ?_) (fun ec => ?_)))
    · have ec : ¬ chkR x = true := by simpa using ec
      rw [if_neg fun hh => ec hh.2]
      exact wp_some ⟨hF k1, rfl, a, many, rfl, h1⟩
    have ec : chkR x = true := by simpa using ec
    rw [if_pos ⟨eo, ec⟩]
    refine wp_seq (fun p => (p.1 = .inr (mayS t.p.st x.2.1, ()) ∧ x.1 = 2 ∧ mayS t.p.st x.2.1 ≠ 0 ∨ p.1 = .inl () ∧ ¬ (x.1 = 2 ∧ mayS t.p.st x.2.1 ≠ 0)) ∧ Keep (fun _ => False) H1 p.2) ?_ ?_
    · refine wp_to (rdI_of t1 (n := x.1) rfl) (wp_if (p := x.1 = 2) rfl (fun e => ?_) (fun e => ?_))
      · refine wp_to (v := (c, 0)) rfl (wp_to (rdM_of h1.c (n := a.om) rfl) (wp_to (rdI_of t1 (n := x.2.1) rfl) ?_))
        rw [e1]
        refine wp_seq _ (tr_may e2 x.2.1) ?_
        rintro ⟨⟨ee, ⟨⟩⟩, G⟩ ⟨he, hk⟩
        have he : ee = mayS t.p.st x.2.1 := he
        subst he
        refine wp_if (p := ¬ mayS t.p.st x.2.1 = 0) (by simp) (fun e0 => ?_) (fun e0 => ?_)
        · exact wp_some ⟨.inl ⟨rfl, e, e0⟩, hk⟩
        · exact wp_some ⟨.inr ⟨rfl, fun hh => e0 hh.2⟩, hk⟩
      · exact wp_some ⟨.inr ⟨rfl, fun hh => e hh.1⟩, Keep.refl _ _⟩
    rintro ⟨p, G⟩ ⟨hp, hkG⟩
    have hkG : Keep (fun _ => False) H1 G := hkG
    have h2 := h1.keep hkG
    rcases hp with ⟨hp, e, e0⟩ | ⟨hp, e⟩
    · have hp : p = .inr (mayS t.p.st x.2.1, ()) := hp
      subst hp
      rw [if_pos ⟨e, e0⟩]
      exact wp_some ⟨hF (k1.trans hkG), rfl, a, many, rfl, h2⟩
    · have hp : p = .inl () := hp
      subst hp
      rw [if_neg e]
      refine wp_seq _ (md_stepD h2 (hkG.get t1 fun hf => hf) (chk_good ec) hk) ?_
      rintro ⟨⟨ee, ⟨⟩⟩, G'⟩ ⟨q1, q2⟩
      exact wp_some ⟨(hF (k1.trans hkG)).trans q1, q2⟩
theorem md_Put (h : MdAt H c a r size many now o) (id p : Int) (text : Bytes) (hn : a.n < 4611686018427387904) : WP (model_Model_Put (some (c, 0)) id p text H) fun y => Keep (fun b => b = c) H y.2 ∧ y.1.1 = (putO o id p text r size).1 ∧ ∃ a' many', a'.n ≤ a.n + 1 ∧ MdAt y.2 c a' r size many' now (putO o id p text r size).2 := by
  have k1 := Keep.app (fun _ => False) H [.cells [.ptr (some (c, 0))] .exact, .cells [.int .i64 id] .exact, .cells [.int .i64 p] .exact, .cells [.str text] .exact]
  have t0 : (H ++ [Blk.cells [.ptr (some (c, 0))] .exact, .cells [.int .i64 id] .exact, .cells [.int .i64 p] .exact, .cells [.str text] .exact])[H.length]? = some (.cells [.ptr (some (c, 0))] .exact) := by rw [tl_get0]; rfl
  have t1 : (H ++ [Blk.cells [.ptr (some (c, 0))] .exact, .cells [.int .i64 id] .exact, .cells [.int .i64 p] .exact, .cells [.str text] .exact])[H.length + 1]? = some (.cells [.int .i64 id] .exact) := by rw [tl_get1]; rfl
  have t2 : (H ++ [Blk.cells [.ptr (some (c, 0))] .exact, .cells [.int .i64 id] .exact, .cells [.int .i64 p] .exact, .cells [.str text] .exact])[H.length + 2]? = some (.cells [.int .i64 p] .exact) := by rw [tl_get1]; rfl
  have t3 : (H ++ [Blk.cells [.ptr (some (c, 0))] .exact, .cells [.int .i64 id] .exact, .cells [.int .i64 p] .exact, .cells [.str text] .exact])[H.length + 3]? = some (.cells [.str text] .exact) := by rw [tl_get1]; rfl
  have h1 := h.keep k1
  unfold model_Model_Put
  simp only [List.append_assoc, List.cons_append, List.nil_append, List.length_append, List.length_cons, List.length_nil, Nat.zero_add]
  generalize H ++ [Blk.cells [.ptr (some (c, 0))] .exact, .cells [.int .i64 id] .exact, .cells [.int .i64 p] .exact, .cells [.str text] .exact] = H1 at k1 t0 t1 t2 t3 h1 ⊢
  have hF : ∀ {A B : Heap}, Keep (fun _ => False) A B → Keep (fun b => b = c) A B := fun k => k.mono fun _ hf => hf.elim
  refine wp_to (rdP_of t0 (n := some (c, 0)) rfl) (wp_f rfl (wp_to (rdP_of t0 (n := some (c, 0)) rfl) (wp_to (v := (c, 0)) rfl (wp_to (rdM_of h1.c (n := a.om) rfl) ?_))))
  cases o with
  | none =>
    have e1 : a.om = none := h.opn
    exact wp_t (by rw [e1]; rfl) (wp_some ⟨hF k1, rfl, a, many, by omega, h1⟩)
  | some t =>
    obtain ⟨m, e1, e2, _⟩ := h1.opn
    show WP _ fun (y : (Int × Unit) × Heap) => Keep (fun b => b = c) H y.2 ∧ y.1.1 = (t.putS id p text r size).1 ∧ ∃ a' many', a'.n ≤ a.n + 1 ∧ MdAt y.2 c a' r size many' now (some (t.putS id p text r size).2)
    unfold Tx.putS
    refine wp_f (by rw [e1]; rfl) (wp_to (rdS_of t3 (n := text) rfl) (wp_to (rdP_of t0 (n := some (c, 0)) rfl) (wp_to (v := (c, 0)) rfl (wp_to (rdI_of h1.c (n := size) rfl) (wp_if (p := size < (text.length : Int)) rfl (fun e => ?_) (fun e => ?_))))))
    · rw [if_pos e]
      exact wp_some ⟨hF k1, rfl, a, many, by omega, h1⟩
    rw [if_neg e]
    refine wp_to (rdP_of t0 (n := some (c, 0)) rfl) (wp_to (v := (c, 0)) rfl (wp_to (rdM_of h1.c (n := a.om) rfl) (wp_to (rdI_of t1 (n := id) rfl) ?_)))
    rw [e1]
    refine wp_seq _ (tr_may e2 id) ?_
    rintro ⟨⟨ee, ⟨⟩⟩, G⟩ ⟨he, hk⟩
    have he : ee = mayS t.p.st id := he
    subst he
    have hk : Keep (fun _ => False) H1 G := hk
    have h2 := h1.keep hk
    refine wp_if (p := ¬ mayS t.p.st id = 0) (by simp) (fun e0 => ?_) (fun e0 => ?_)
    · rw [if_pos e0]
      exact wp_some ⟨hF (k1.trans hk), rfl, a, many, by omega, h2⟩
    · rw [if_neg e0]
      have e0' : mayS t.p.st id = 0 := Decidable.byContradiction e0
      refine wp_to (rdP_of (hk.get t0 fun hf => hf) (n := some (c, 0)) rfl) (wp_seq _ (md_stepP h2 (hk.get t2 fun hf => hf) (hk.get t1 fun hf => hf) (hk.get t0 fun hf => hf) (hk.get t3 fun hf => hf) e0' hn) ?_)
      rintro ⟨⟨ee, ⟨⟩⟩, G'⟩ ⟨q1, q2⟩
      exact wp_some ⟨(hF (k1.trans hk)).trans q1, q2⟩
/-- What is seen. -/
def seeP (now : Pln) (o : Option Tx) : Pln := match o with | none => now | some t => t.p
theorem md_see (h : MdAt H c a r size many now o) : ∃ m pg, model_Model_see (some (c, 0)) H = some ((some m, ()), H) ∧ TrAt H m pg a.f (seeP now o).st ∧ PlOK (seeP now o) a.f a.n := by
  have hm : rdM H c (0 + 1) = some a.om := rdM_of h.c rfl
  cases o with
  | none =>
    have e1 : a.om = none := h.opn
    refine ⟨a.nm, a.np, ?_, h.nw, h.nok⟩
    unfold model_Model_see
    show (rdM H c (0 + 1)).bind _ = _
    rw [hm, e1]
    show (rdM H c 0).bind _ = _
    rw [rdM_of h.c (n := some a.nm) rfl]; rfl
  | some t =>
    obtain ⟨m, e1, e2, e3, _⟩ := h.opn
    refine ⟨m, a.op, ?_, e2, e3⟩
    unfold model_Model_see
    show (rdM H c (0 + 1)).bind _ = _
    rw [hm, e1]
    show (rdM H c (0 + 1)).bind _ = _
    rw [hm, e1]; rfl
/-- What a page says. -/
def txtP (q : Pln) (v : Int) : Bytes := (q.tx[(v - 1000).toNat]?).getD []
theorem PlOK.txt {q : Pln} {f : LfF} {n : Nat} (h : PlOK q f n) {x : Int × Int} (hx : x ∈ q.st.lv) : (f x.2).1 = txtP q x.2 := by
  obtain ⟨i, hi, e⟩ := h.one hx
  unfold txtP
  rw [e, show (1000 + (i : Int) - 1000).toNat = i by omega, List.getElem?_eq_getElem hi]
  exact (h.tx i hi).1
theorem md_Get (h : MdAt H c a r size many now o) (id p : Int) : WP (model_Model_Get (some (c, 0)) id p H) fun y => Keep (fun _ => False) H y.2 ∧ y.1 = (match afind (pgs (seeP now o).st.lv id) p with | none => ([], 181, ()) | some v => (txtP (seeP now o) v, 0, ())) := by
  obtain ⟨m, pg, e1, e2, e3⟩ := md_see h
  unfold model_Model_Get
  refine wp_f rfl (wp_to e1 (wp_to (e2.sp.space id) ?_))
  cases hx : afind (seeP now o).st.sp id with
  | none =>
    have hn : pgs (seeP now o).st.lv id = [] := pgs_none e2.w hx
    rw [hn]
    refine wp_to (v := (([], 0, ()), false)) (mget_nil _ _ _ rfl) (wp_tmpL (wp_t rfl (wp_some ⟨Keep.app _ _ _, rfl⟩)))
  | some y =>
    refine wp_to ((e2.pp id y hx).leaf p) (wp_tmpL ?_)
    cases hf : afind (pgs (seeP now o).st.lv id) p with
    | none => exact wp_t rfl (wp_some ⟨Keep.app _ _ _, rfl⟩)
    | some v =>
      have ht := e3.txt (x := (id * 1024 + p, v)) (pgs_mem (afind_mem hf)).2.2
      refine wp_f rfl (wp_to (rdS_of (cs := [.str (a.f v).1, .int .i64 (a.f v).2]) (bk := .exact) (n := (a.f v).1) (by rw [tl_get0]; rfl) rfl) (wp_some ⟨Keep.app _ _ _, ?_⟩))
      rw [ht]
end
end Ev

namespace Ev
open Go (IntKind)

abbrev ctF : List CT := [.int .i64, .int .i64, .str]
def leafR (q : Pln) (x : Int × Int) : Tup ctF := (x.1 / 1024, x.1 % 1024, txtP q x.2, ())
def infR (st : Sta) (x : Int × Int × Bool) : Tup ctI := spI st x.1
def leafS (q : Pln) (id : Int) (y : Int × Int) : Tup ctF := (id, y.1, txtP q y.2, ())
theorem asc_mem {α : Type} {l l' : List (Int × α)} (h : Asc l) (h' : Asc l') (e : ∀ x, x ∈ l ↔ x ∈ l') : l = l' :=
  asc_ext h h' fun k => by
    cases hf : afind l k with
    | some v => exact (h'.find ((e _).1 (afind_mem hf))).symm
    | none =>
      cases hg : afind l' k with
      | none => rfl
      | some v => rw [h.find ((e _).2 (afind_mem hg))] at hf; cases hf
theorem flat_snoc3 {α β : Type} (f : α → List β) (l : List α) (x : α) : ((l ++ [x]).map f).flatten = (l.map f).flatten ++ f x := by simp
theorem rowsOf_append3 {cts : List CT} (l l' : List (Tup cts)) : rowsOf cts (l ++ l') = rowsOf cts l ++ rowsOf cts l' := by simp [rowsOf]
theorem lv_spaces {st : Sta} (w : SaW st) : (st.sp.map fun x => (pgs st.lv x.1).map fun y => (x.1 * 1024 + y.1, y.2)).flatten = st.lv := by
  refine asc_mem ?_ w.lv fun x => ?_
  · unfold Asc
    rw [List.pairwise_flatten]
    refine ⟨fun l hl => ?_, ?_⟩
    · obtain ⟨x, hx, rfl⟩ := List.mem_map.1 hl
      rw [List.pairwise_map]
      exact (pgs_asc w.lv x.1).imp fun {a b} hab => by show x.1 * 1024 + a.1 < x.1 * 1024 + b.1; omega
    · rw [List.pairwise_map]
      refine w.sp.imp fun {a b} hab x hx y hy => ?_
      obtain ⟨p, hp, rfl⟩ := List.mem_map.1 hx
      obtain ⟨q, hq, rfl⟩ := List.mem_map.1 hy
      have h1 := pgs_mem hp
      have h2 := pgs_mem hq
      show a.1 * 1024 + p.1 < b.1 * 1024 + q.1
      omega
  · rw [List.mem_flatten]
    constructor
    · rintro ⟨l, hl, hx⟩
      obtain ⟨y, hy, rfl⟩ := List.mem_map.1 hl
      obtain ⟨p, hp, rfl⟩ := List.mem_map.1 hx
      exact (pgs_mem hp).2.2
    · intro hx
      obtain ⟨y, hy⟩ := Option.isSome_iff_exists.1 (w.own x hx)
      refine ⟨_, List.mem_map.2 ⟨_, afind_mem hy, rfl⟩, List.mem_map.2 ⟨(x.1 % 1024, x.2), ?_, ?_⟩⟩
      · refine afind_mem ?_
        rw [pgs_find w.lv, if_pos (by omega), show x.1 / 1024 * 1024 + x.1 % 1024 = x.1 by omega]
        exact w.lv.find hx
      · show (x.1 / 1024 * 1024 + x.1 % 1024, x.2) = x
        rw [show x.1 / 1024 * 1024 + x.1 % 1024 = x.1 by omega]
theorem leaf_rows {q : Pln} (w : SaW q.st) : (q.st.sp.map fun x => (pgs q.st.lv x.1).map (leafS q x.1)).flatten = q.st.lv.map (leafR q) := by
  have h := congrArg (List.map (leafR q)) (lv_spaces w)
  rw [← h, List.map_flatten, List.map_map]
  congr 1
  refine List.map_congr_left fun x _ => ?_
  show _ = ((pgs q.st.lv x.1).map fun y => (x.1 * 1024 + y.1, y.2)).map (leafR q)
  rw [List.map_map]
  refine List.map_congr_left fun y hy => ?_
  have := pgs_mem hy
  show (x.1, y.1, txtP q y.2, ()) = ((x.1 * 1024 + y.1) / 1024, (x.1 * 1024 + y.1) % 1024, txtP q y.2, ())
  rw [(key_div x.1 y.1 this.1 this.2.1).1, (key_div x.1 y.1 this.1 this.2.1).2]
section
variable {H G : Heap} {c : Nat} {a : MdA} {r : RoomT} {size many : Int} {now : Pln} {o : Option Tx} {t : Tx}
theorem md_Spaces (h : MdAt H c a r size many now o) : WP (model_Model_Spaces (some (c, 0)) H) fun y => ∃ s, y.1 = (s, ()) ∧ Row y.2 4 s (rowsOf ctI (infos (seeP now o).st)) ∧ s.len = (seeP now o).st.sp.length ∧ Keep (fun _ => False) H y.2 := by
  obtain ⟨m, pg, e1, e2, e3⟩ := md_see h
  obtain ⟨ks, K, f1, f2, f3, f4, f5, f6⟩ := e2.sp.sorted (sp_keys e2.w).1 (sp_keys e2.w).2
  generalize seeP now o = q at e2 e3 f1 f2 f3 ⊢
  have hK : TrAt K m pg a.f q.st := e2.keep f6 fun _ _ hf => hf
  have hrow : Row K 1 ks (intC (q.st.sp.map Prod.fst)) := ⟨f2, f4⟩
  have hll : (q.st.sp.map Prod.fst).length = q.st.sp.length := List.length_map _
  have hfew := e2.w.few
  unfold model_Model_Spaces
  refine wp_to e1 (wp_to (v := (((some (H.length, 0), ()), ()), H ++ [.cells [.mp (some m)] .exact])) rfl (wp_to f1 ?_))
  refine wp_seq _ (wp_rise (step := model_Model_Spaces.s1 ((some m, ()), H) ((ks, ()), K)) q.st.sp.length (fun i (y : Sl × Int × Unit) G => ∃ s, y = (s, (i : Int), ()) ∧ Em K ⟨none, 0, 0⟩ 4 G s (rowsOf ctI ((q.st.sp.take i).map (infR q.st))) ∧ s.len = i)
    (fun (y : Sl × Unit) G => ∃ s, y = (s, ()) ∧ Em K ⟨none, 0, 0⟩ 4 G s (rowsOf ctI (infos q.st)) ∧ s.len = q.st.sp.length) ?_ ?_ ⟨_, rfl, Em.start (Grown.ni K 4), rfl⟩) ?_
  · rintro i y G hi ⟨s, rfl, hE, hn⟩
    have hkk := hE.calm rfl
    have hG : TrAt G m pg a.f q.st := hK.keep hkk fun _ _ hf => hf
    obtain ⟨b0, o0, _, r1, r2⟩ := (hrow.keep hkk fun _ _ _ hf => hf).int (i := i) (by omega)
    have hx : (q.st.sp.map Prod.fst)[i]'(by omega) = q.st.sp[i].1 := List.getElem_map _
    rw [hx] at r2
    have hf : afind q.st.sp q.st.sp[i].1 = some q.st.sp[i].2 := e2.w.sp.find (List.getElem_mem hi)
    have hsp : infR q.st q.st.sp[i] = _ := spI_at q.st hf
    have hm := hG.sp.space q.st.sp[i].1
    rw [hf] at hm
    rw [take_snoc hi, List.map_append]
    have hpp := hG.pp _ _ hf
    generalize q.st.sp[i] = z at r2 hf hsp hm hpp ⊢
    obtain ⟨id, qq, b⟩ := z
    have hw := wrap_succ (show i < 9223372036854775807 by omega)
    have k1 := Keep.app (fun _ => False) G [.cells [.int .i64 qq, .bool b, .mp (some (pg id))] .exact]
    have t1 : (G ++ [Blk.cells [.int .i64 qq, .bool b, .mp (some (pg id))] .exact])[G.length]? = some (.cells [.int .i64 qq, .bool b, .mp (some (pg id))] .exact) := by rw [tl_get0]; rfl
    unfold model_Model_Spaces.s1
    refine wp_t (decide_eq_true (by rw [f3]; exact Int.ofNat_lt.2 hi)) (wp_to r1 (wp_to r2 (wp_to hm (wp_tmpS ?_))))
    refine wp_to (rdI_of t1 (n := qq) rfl) (wp_to (rdM_of t1 (n := some (pg id)) rfl) (wp_to (hpp.keep k1 fun hf => hf).len (wp_to (rdB_of t1 (n := b) rfl) ?_)))
    refine wp_app (hE.push _) rfl (by decide) (by omega) fun s' G' hE' hn' => wp_some ⟨s', ?_, ?_, by rw [hn', hn]⟩
    · simp only [hw]
    · have e5 : Tup.mk ctI (infR q.st (id, qq, b)) = Tup.mk ctI (id, qq, ((pgs q.st.lv id).length : Int), b, ()) := congrArg (Tup.mk ctI) hsp
      rw [List.map_cons, List.map_nil, rowsOf_append3]
      show Em K _ 4 _ _ (_ ++ (Tup.mk ctI (infR q.st (id, qq, b)) ++ []))
      rw [e5, List.append_nil]
      exact hE'
  · rintro y G ⟨s, rfl, hE, hn⟩
    rw [List.take_length] at hE
    unfold model_Model_Spaces.s1
    exact wp_f (decide_eq_false (by rw [f3]; exact Int.lt_irrefl _)) (wp_some ⟨s, rfl, hE, hn⟩)
  · rintro ⟨⟨s, ⟨⟩⟩, G⟩ ⟨s', hs, hE, hn⟩
    cases hs
    exact wp_some ⟨s, rfl, Row.grown hE.g, hn, f6.trans (hE.calm rfl)⟩
theorem leaves_inner {K : Heap} {m : Nat} {pg : Int → Nat} {f : LfF} {q : Pln} {n : Nat} (hK : TrAt K m pg f q.st) (hq : PlOK q f n) {id : Int} {x : Int × Bool} (hx : afind q.st.sp id = some x) {ks : Sl} (hrow : Row K 1 ks (intC ((pgs q.st.lv id).map Prod.fst))) (hkl : ks.len = (pgs q.st.lv id).length) {s0 : Sl} {cs : List C} (hg : Grown K 3 s0 cs)
    (hk0 : ∀ b o o', ks.p = some (b, o) → s0.p ≠ some (b, o')) (hn0 : s0.len ≤ 20000) {G0 G1 : Heap} :
    WP (loopW (model_Model_Leaves.s1 ((some m, ()), G0) id ((ks, ()), G1)) (s0, 0, ()) K) fun y => ∃ s, y.1 = (s, ()) ∧ Em K s0 3 y.2 s (cs ++ rowsOf ctF ((pgs q.st.lv id).map (leafS q id))) ∧ s.len = s0.len + (pgs q.st.lv id).length := by
  have hll : ((pgs q.st.lv id).map Prod.fst).length = (pgs q.st.lv id).length := List.length_map _
  have hpl := hK.w.pgl id
  have hP := pgs_asc hK.w.lv id
  have hso : ∀ b, trF m pg q.st b → ¬ ∃ o, s0.p = some (b, o) := fun b hb ⟨o, ho⟩ => by
    rcases (hg.blk _ ho).2 with hh | hh
    · exact hK.ne hh b hb rfl
    · exact hK.ne hh b hb rfl
  refine wp_mono (wp_rise (step := model_Model_Leaves.s1 ((some m, ()), G0) id ((ks, ()), G1)) (pgs q.st.lv id).length (fun i (y : Sl × Int × Unit) G => ∃ s, y = (s, (i : Int), ()) ∧ Em K s0 3 G s (cs ++ rowsOf ctF (((pgs q.st.lv id).take i).map (leafS q id))) ∧ s.len = s0.len + i)
    (fun (y : Sl × Unit) G => ∃ s, y = (s, ()) ∧ Em K s0 3 G s (cs ++ rowsOf ctF ((pgs q.st.lv id).map (leafS q id))) ∧ s.len = s0.len + (pgs q.st.lv id).length) ?_ ?_ ⟨_, rfl, by simpa [rowsOf] using Em.start hg, rfl⟩) fun y hy => hy
  · rintro i y G hi ⟨s, rfl, hE, hn⟩
    have hG : TrAt G m pg f q.st := hK.keep hE.k hso
    obtain ⟨b0, o0, _, r1, r2⟩ := (hE.row hrow hk0).int (i := i) (by omega)
    have hxx : ((pgs q.st.lv id).map Prod.fst)[i]'(by omega) = (pgs q.st.lv id)[i].1 := List.getElem_map _
    rw [hxx] at r2
    have hf : afind (pgs q.st.lv id) (pgs q.st.lv id)[i].1 = some (pgs q.st.lv id)[i].2 := hP.find (List.getElem_mem hi)
    have htxt := hq.txt (x := (id * 1024 + (pgs q.st.lv id)[i].1, (pgs q.st.lv id)[i].2)) (pgs_mem (List.getElem_mem hi)).2.2
    have hm := hG.sp.space id
    rw [hx] at hm
    have hlf := (hG.pp id x hx).leaf (pgs q.st.lv id)[i].1
    rw [hf] at hlf
    rw [take_snoc hi, List.map_append]
    generalize (pgs q.st.lv id)[i] = z at r2 htxt hlf ⊢
    have hw := wrap_succ (show i < 9223372036854775807 by omega)
    unfold model_Model_Leaves.s1
    refine wp_t (decide_eq_true (by rw [hkl]; exact Int.ofNat_lt.2 hi)) (wp_to r1 (wp_to r2 (wp_to hm (wp_to hlf ?_))))
    refine wp_app hE rfl (by decide) (by omega) fun s' G' hE' hn' => wp_some ⟨s', ?_, ?_, by rw [hn', hn]; omega⟩
    · simp only [hw]
    · rw [List.map_cons, List.map_nil, rowsOf_append3, ← List.append_assoc]
      have e : leafS q id z = (id, z.1, (f z.2).1, ()) := by rw [htxt]; rfl
      rw [e]
      exact hE'
  · rintro y G ⟨s, rfl, hE, hn⟩
    rw [List.take_length] at hE
    unfold model_Model_Leaves.s1
    exact wp_f (decide_eq_false (by rw [hkl]; exact Int.lt_irrefl _)) (wp_some ⟨s, rfl, hE, hn⟩)
theorem md_Leaves (h : MdAt H c a r size many now o) : WP (model_Model_Leaves (some (c, 0)) H) fun y => ∃ s, y.1 = (s, ()) ∧ Row y.2 3 s (rowsOf ctF ((seeP now o).st.lv.map (leafR (seeP now o)))) ∧ s.len = (seeP now o).st.lv.length ∧ Keep (fun _ => False) H y.2 := by
  obtain ⟨m, pg, e1, e2, e3⟩ := md_see h
  obtain ⟨ks, K, f1, f2, f3, f4, f5, f6⟩ := e2.sp.sorted (sp_keys e2.w).1 (sp_keys e2.w).2
  generalize seeP now o = q at e2 e3 f1 f2 f3 ⊢
  have hK : TrAt K m pg a.f q.st := e2.keep f6 fun _ _ hf => hf
  have hrow : Row K 1 ks (intC (q.st.sp.map Prod.fst)) := ⟨f2, f4⟩
  have hll : (q.st.sp.map Prod.fst).length = q.st.sp.length := List.length_map _
  have hfew := e2.w.few
  have hlen : ∀ i, ((q.st.sp.take i).map fun x => (pgs q.st.lv x.1).map (leafS q x.1)).flatten.length ≤ 15360 := fun i => by
    have h1 := congrArg List.length (leaf_rows e2.w)
    rw [List.length_map] at h1
    have h2 := e2.w.many
    have h3 : ((q.st.sp.take i).map fun x => (pgs q.st.lv x.1).map (leafS q x.1)).flatten.length ≤ (q.st.sp.map fun x => (pgs q.st.lv x.1).map (leafS q x.1)).flatten.length := by
      rw [List.map_take, List.length_flatten, List.length_flatten, List.map_take]
      exact sum_take_le _ i
    omega
  unfold model_Model_Leaves
  refine wp_to e1 (wp_to (v := (((some (H.length, 0), ()), ()), H ++ [.cells [.mp (some m)] .exact])) rfl (wp_to f1 ?_))
  refine wp_seq _ (wp_rise (step := model_Model_Leaves.s2 ((some m, ()), H) ((ks, ()), K)) q.st.sp.length (fun i (y : Sl × Int × Unit) G => ∃ s, y = (s, (i : Int), ()) ∧ Em K ⟨none, 0, 0⟩ 3 G s (rowsOf ctF (((q.st.sp.take i).map fun x => (pgs q.st.lv x.1).map (leafS q x.1)).flatten)) ∧ s.len = ((q.st.sp.take i).map fun x => (pgs q.st.lv x.1).map (leafS q x.1)).flatten.length)
    (fun (y : Sl × Unit) G => ∃ s, y = (s, ()) ∧ Em K ⟨none, 0, 0⟩ 3 G s (rowsOf ctF (q.st.lv.map (leafR q))) ∧ s.len = q.st.lv.length) ?_ ?_ ⟨_, rfl, Em.start (Grown.ni K 3), rfl⟩) ?_
  · rintro i y G hi ⟨s, rfl, hE, hn⟩
    have hkk := hE.calm rfl
    have hG : TrAt G m pg a.f q.st := hK.keep hkk fun _ _ hf => hf
    obtain ⟨b0, o0, _, r1, r2⟩ := (hrow.keep hkk fun _ _ _ hf => hf).int (i := i) (by omega)
    have hx : (q.st.sp.map Prod.fst)[i]'(by omega) = q.st.sp[i].1 := List.getElem_map _
    rw [hx] at r2
    have hf : afind q.st.sp q.st.sp[i].1 = some q.st.sp[i].2 := e2.w.sp.find (List.getElem_mem hi)
    have hm := hG.sp.space q.st.sp[i].1
    rw [hf] at hm
    have hli := hlen i
    rw [take_snoc hi, flat_snoc3]
    have hpp := hG.pp _ _ hf
    have hpl := e2.w.pgl q.st.sp[i].1
    generalize q.st.sp[i] = z at r2 hf hm hpp hpl ⊢
    obtain ⟨id, x⟩ := z
    have hpp : MpA G (pg id) (lfW a.f) (pgs q.st.lv id) := hpp
    have hw := wrap_succ (show i < 9223372036854775807 by omega)
    obtain ⟨k2, K2, g1, g2, g3, g4, g5, g6⟩ := hpp.sorted (by have hpl : (pgs q.st.lv id).length ≤ 1024 := hpl; omega) (fun y hy => by have := pgs_mem hy; omega)
    have hE2 := hE.keep g6 fun _ hf => hf.elim
    unfold model_Model_Leaves.s2
    refine wp_t (decide_eq_true (by rw [f3]; exact Int.ofNat_lt.2 hi)) (wp_to r1 (wp_to r2 (wp_to hm (wp_to (v := (((some (G.length, 0), ()), ()), G ++ [.cells [.mp (some (pg id))] .exact])) rfl (wp_to g1 ?_)))))
    refine wp_seq _ (leaves_inner (hG.keep g6 fun _ _ hf => hf) e3 hf (⟨g2, g4⟩ : Row K2 1 k2 (intC ((pgs q.st.lv id).map Prod.fst))) g3 hE2.g (fun b o o' hp hp' => by
      have h1 := g5 _ hp
      have h2 := hE.g.lt hp'
      simp only at h1 h2
      omega) (by omega)) ?_
    rintro ⟨⟨s2, ⟨⟩⟩, G2⟩ ⟨s', hs, hE3, hn3⟩
    cases hs
    have hn3 : s2.len = s.len + (pgs q.st.lv id).length := hn3
    refine wp_some ⟨s2, ?_, ?_, ?_⟩
    · simp only [hw]
    · rw [rowsOf_append3]; exact hE2.then hE3
    · rw [List.length_append, List.length_map, hn3, hn]
  · rintro y G ⟨s, rfl, hE, hn⟩
    rw [List.take_length, leaf_rows e2.w] at hE hn
    rw [List.length_map] at hn
    unfold model_Model_Leaves.s2
    exact wp_f (decide_eq_false (by rw [f3]; exact Int.lt_irrefl _)) (wp_some ⟨s, rfl, hE, hn⟩)
  · rintro ⟨⟨s, ⟨⟩⟩, G⟩ ⟨s', hs, hE, hn⟩
    cases hs
    exact wp_some ⟨s, rfl, Row.grown hE.g, hn, f6.trans (hE.calm rfl)⟩
end
end Ev

namespace Ev
open Go (IntKind)

abbrev P5 := Sl × Sl × Sl × Sl × Sl × Unit
abbrev P6 := Sl × Sl × Sl × Sl × Sl × Int × Unit
def p4 (v : P5) : RfV := (v.1, v.2.1, v.2.2.1, v.2.2.2.1, ())
def p5 (v : P6) : P5 := (v.1, v.2.1, v.2.2.1, v.2.2.2.1, v.2.2.2.2.1, ())
def v5C (v : P5) : List C := [.sl 3 v.1, .sl 3 v.2.1, .sl 1 v.2.2.1, .sl 2 v.2.2.2.1, .sl 1 v.2.2.2.2.1]
def v6C (v : P6) : List C := [.sl 3 v.1, .sl 3 v.2.1, .sl 1 v.2.2.1, .sl 2 v.2.2.2.1, .sl 1 v.2.2.2.2.1, .int .i64 v.2.2.2.2.2.1]
def blk5 (v : P5) (b : Nat) : Prop := blkV (p4 v) b ∨ ∃ o, v.2.2.2.2.1.p = some (b, o)
structure P5At (G : Heap) (v : P5) (q : Pln) : Prop where
  r : RfAt G (p4 v) q.st
  t : Row G 1 v.2.2.2.2.1 (q.tx.map C.str)
  tl : v.2.2.2.2.1.len = q.tx.length
structure P6At (G : Heap) (v : P6) (t : Tx) : Prop where
  p : P5At G (p5 v) t.p
  m : v.2.2.2.2.2.1 = (t.many : Int)
structure P5Res (H : Heap) (v : P5) (G : Heap) (v' : P5) (q' : Pln) : Prop where
  s : P5At G v' q'
  k : Keep (fun _ => False) H G
  n : ∀ b, blk5 v' b → blk5 v b ∨ H.length ≤ b
structure P6Res (H : Heap) (v : P6) (G : Heap) (v' : P6) (t' : Tx) : Prop where
  s : P6At G v' t'
  k : Keep (fun _ => False) H G
  n : ∀ b, blk5 (p5 v') b → blk5 (p5 v) b ∨ H.length ≤ b
section
variable {H G : Heap} {v v' v0 : P5} {w w' w0 : P6} {q q' : Pln} {t t' : Tx}
theorem P5At.keep (h : P5At H v q) {F : Nat → Prop} (k : Keep F H G) (hF : ∀ b, blk5 v b → ¬ F b) : P5At G v q :=
  ⟨h.r.keep k fun b hb => hF b (.inl hb), h.t.keep k fun b o hp => hF b (.inr ⟨o, hp⟩), h.tl⟩
theorem P6At.keep (h : P6At H w t) {F : Nat → Prop} (k : Keep F H G) (hF : ∀ b, blk5 (p5 w) b → ¬ F b) : P6At G w t := ⟨h.p.keep k hF, h.m⟩
theorem P5At.lt (h : P5At H v q) {b : Nat} (hb : blk5 v b) : b < H.length := by
  rcases hb with hb | ⟨o, hp⟩
  · exact h.r.lt hb
  · exact h.t.lt hp
theorem P5Res.refl (h : P5At H v q) : P5Res H v H v q := ⟨h, Keep.refl _ _, fun b hb => .inl hb⟩
theorem P6Res.refl (h : P6At H w t) : P6Res H w H w t := ⟨h, Keep.refl _ _, fun b hb => .inl hb⟩
theorem ret5 {B : Nat} (hs : P5At G v' q') (hk : Keep (fun _ => False) H G) (hB : H.length ≤ B) {cs : List C} (hb : G[B]? = some (.cells cs .exact)) (hl : cs.length = 5) (hn : ∀ b, blk5 v' b → (blk5 v0 b ∨ H.length ≤ b) ∧ b ≠ B) {e : Int}
    {Q : (P5 × Int × Unit) × Heap → Prop} (hQ : ∀ G', P5Res H v0 G' v' q' → Q ((v', e, ()), G')) :
    WP ((wr G B 0 [.sl 3 v'.1, .sl 3 v'.2.1, .sl 1 v'.2.2.1, .sl 2 v'.2.2.2.1, .sl 1 v'.2.2.2.2.1]).bind fun (H57 : Heap) => Option.bind (α := P5) (rd H57 (.agg [.sl 3, .sl 3, .sl 1, .sl 2, .sl 1]) B 0) fun v58 => some ((v58, e, ()), H57)) Q := by
  have hwr : wr G B 0 [.sl 3 v'.1, .sl 3 v'.2.1, .sl 1 v'.2.2.1, .sl 2 v'.2.2.2.1, .sl 1 v'.2.2.2.2.1] = some (G.set B (.cells (v5C v') .exact)) := by
    rw [wr_of hb (by decide) (by rw [hl]; exact Nat.le_refl 5)]
    obtain ⟨c0, c1, c2, c3, c4, rfl⟩ : ∃ c0 c1 c2 c3 c4, cs = [c0, c1, c2, c3, c4] := by
      match cs, hl with
      | [c0, c1, c2, c3, c4], _ => exact ⟨c0, c1, c2, c3, c4, rfl⟩
    rfl
  have hrd : rd (G.set B (.cells (v5C v') .exact)) (.agg [.sl 3, .sl 3, .sl 1, .sl 2, .sl 1]) B 0 = (some v' : Option P5) := rd_agg_of (set_get (get_lt hb)) (by simp [v5C]) rfl
  have kk : Keep (fun b => b = B) G (G.set B (.cells (v5C v') .exact)) := Keep.set _ _ _ rfl
  refine wp_to hwr (wp_to hrd (wp_some (hQ _ ⟨hs.keep kk fun b hbb e => (hn b hbb).2 e, ⟨by have := hk.len; simp only [List.length_set]; omega, fun b hbb _ => ?_⟩, fun b hbb => (hn b hbb).1⟩)))
  rw [set_get' (by omega)]
  exact hk.same b hbb fun hf => hf
theorem wr6 {B : Nat} {cs : List C} (hb : G[B]? = some (.cells cs .exact)) (hl : cs.length = 6) (w : P6) : wr G B 0 [.sl 3 w.1, .sl 3 w.2.1, .sl 1 w.2.2.1, .sl 2 w.2.2.2.1, .sl 1 w.2.2.2.2.1, .int .i64 w.2.2.2.2.2.1] = some (G.set B (.cells (v6C w) .exact)) := by
  rw [wr_of hb (by decide) (by rw [hl]; exact Nat.le_refl 6)]
  obtain ⟨c0, c1, c2, c3, c4, c5, rfl⟩ : ∃ c0 c1 c2 c3 c4 c5, cs = [c0, c1, c2, c3, c4, c5] := by
    match cs, hl with
    | [c0, c1, c2, c3, c4, c5], _ => exact ⟨c0, c1, c2, c3, c4, c5, rfl⟩
  rfl
theorem rd6 {B : Nat} (hb : G[B]? = some (.cells (v6C w) .exact)) : rd G (.agg [.sl 3, .sl 3, .sl 1, .sl 2, .sl 1, .int .i64]) B 0 = (some w : Option P6) := rd_agg_of hb (by simp [v6C]) rfl
theorem rd65 {B : Nat} (hb : G[B]? = some (.cells (v6C w) .exact)) : rd G (.agg [.sl 3, .sl 3, .sl 1, .sl 2, .sl 1]) B 0 = (some (p5 w) : Option P5) := rd_agg_of hb (by simp [v6C]) rfl
theorem rd64 {B : Nat} (hb : G[B]? = some (.cells (v6C w) .exact)) : rd G (.agg [.sl 3, .sl 3, .sl 1, .sl 2]) B 0 = (some (p4 (p5 w)) : Option RfV) := rd_agg_of hb (by simp [v6C]) rfl
theorem rd5 {B : Nat} (hb : G[B]? = some (.cells (v5C v) .exact)) : rd G (.agg [.sl 3, .sl 3, .sl 1, .sl 2, .sl 1]) B 0 = (some v : Option P5) := rd_agg_of hb (by simp [v5C]) rfl
theorem rd4 {u : RfV} {B : Nat} (hb : G[B]? = some (.cells (vC u) .exact)) : rd G (.agg [.sl 3, .sl 3, .sl 1, .sl 2]) B 0 = (some u : Option RfV) := rd_agg_of hb (by simp [vC]) rfl
theorem rd54 {B : Nat} (hb : G[B]? = some (.cells (v5C v) .exact)) : rd G (.agg [.sl 3, .sl 3, .sl 1, .sl 2]) B 0 = (some (p4 v) : Option RfV) := rd_agg_of hb (by simp [v5C]) rfl
/-- A result is laid into its box. -/
theorem P6Res.box {B : Nat} (hs : P6At G w' t') (hk : Keep (fun _ => False) H G) (hB : H.length ≤ B) (hn : ∀ b, blk5 (p5 w') b → (blk5 (p5 w0) b ∨ H.length ≤ b) ∧ b ≠ B) (x : Blk) : P6Res H w0 (G.set B x) w' t' := by
  have kk : Keep (fun b => b = B) G (G.set B x) := Keep.set _ _ _ rfl
  refine ⟨hs.keep kk fun b hbb e => (hn b hbb).2 e, ⟨by have := hk.len; simp only [List.length_set]; omega, fun b hbb _ => ?_⟩, fun b hbb => (hn b hbb).1⟩
  rw [set_get' (by omega)]
  exact hk.same b hbb fun hf => hf
theorem ret6 {B : Nat} (hs : P6At G w' t') (hk : Keep (fun _ => False) H G) (hB : H.length ≤ B) {cs : List C} (hb : G[B]? = some (.cells cs .exact)) (hl : cs.length = 6) (hn : ∀ b, blk5 (p5 w') b → (blk5 (p5 w0) b ∨ H.length ≤ b) ∧ b ≠ B) {e : Int}
    {Q : (P6 × Int × Unit) × Heap → Prop} (hQ : ∀ G', P6Res H w0 G' w' t' → Q ((w', e, ()), G')) :
    WP ((wr G B 0 [.sl 3 w'.1, .sl 3 w'.2.1, .sl 1 w'.2.2.1, .sl 2 w'.2.2.2.1, .sl 1 w'.2.2.2.2.1, .int .i64 w'.2.2.2.2.2.1]).bind fun (H57 : Heap) => Option.bind (α := P6) (rd H57 (.agg [.sl 3, .sl 3, .sl 1, .sl 2, .sl 1, .int .i64]) B 0) fun v58 => some ((v58, e, ()), H57)) Q :=
  wp_to (wr6 hb hl w') (wp_to (rd6 (set_get (get_lt hb))) (wp_some (hQ _ (P6Res.box hs hk hB hn _))))
/-- Is there room? -/
theorem pl_fits (h : P5At H v q) (r : RoomT) : WP (ref16_Plain_Fits v r H) fun x => x.1.1 = fitS q.st r ∧ Keep (fun _ => False) H x.2 := by
  have k1 := Keep.app (fun _ => False) H [.cells (v5C v) .exact, .cells [.int .i64 r.1, .int .i64 r.2.1, .int .i64 r.2.2.1, .int .i64 r.2.2.2.1] .exact]
  have h1 := h.keep k1 fun _ _ hf => hf
  have t0 : (H ++ [Blk.cells (v5C v) .exact, .cells [.int .i64 r.1, .int .i64 r.2.1, .int .i64 r.2.2.1, .int .i64 r.2.2.2.1] .exact])[H.length]? = some (.cells (v5C v) .exact) := by rw [tl_get0]; rfl
  have t1 : (H ++ [Blk.cells (v5C v) .exact, .cells [.int .i64 r.1, .int .i64 r.2.1, .int .i64 r.2.2.1, .int .i64 r.2.2.2.1] .exact])[H.length + 1]? = some (.cells [.int .i64 r.1, .int .i64 r.2.1, .int .i64 r.2.2.1, .int .i64 r.2.2.2.1] .exact) := by rw [tl_get1]; rfl
  unfold ref16_Plain_Fits fitS
  simp only [List.append_assoc, List.cons_append, List.nil_append, List.length_append, List.length_cons, List.length_nil, Nat.zero_add]
  generalize hG : H ++ [Blk.cells [.sl 3 v.1, .sl 3 v.2.1, .sl 1 v.2.2.1, .sl 2 v.2.2.2.1, .sl 1 v.2.2.2.2.1] .exact, .cells [.int .i64 r.1, .int .i64 r.2.1, .int .i64 r.2.2.1, .int .i64 r.2.2.2.1] .exact] = H1
  have hG : H ++ [Blk.cells (v5C v) .exact, .cells [.int .i64 r.1, .int .i64 r.2.1, .int .i64 r.2.2.1, .int .i64 r.2.2.2.1] .exact] = H1 := hG
  rw [hG] at k1 h1 t0 t1
  have hlive := rf_live h1.r
  have k2 := Keep.app (fun _ => False) H1 [.cells (vC (p4 v)) .exact]
  have t0' := k2.get t0 fun hf => hf
  have t1' := k2.get t1 fun hf => hf
  refine wp_to (rd54 t0) (wp_to (rdI_of t1 (n := r.1) rfl) (wp_to hlive (wp_if (p := ((rfOf q.st.lv).length : Int) ≤ r.1) rfl (fun e => ?_) (fun e => ?_))))
  · refine wp_to (rdSl_of t0' (n := v.2.1) rfl) (wp_to (rdI_of t1' (n := r.2.1) rfl) (wp_to (rdI_of t1' (n := r.1) rfl) (wp_ite rfl (wp_some ⟨?_, k1.trans k2⟩))))
    rw [decide_eq_true e, Bool.and_true]
    have hl : v.2.1.len = q.st.lv.length := h.r.lvl
    show decide ((v.2.1.len : Int) ≤ r.2.1) = _
    rw [hl]
  · refine wp_to (rdI_of t1' (n := r.1) rfl) (wp_ite rfl (wp_some ⟨?_, k1.trans k2⟩))
    rw [decide_eq_false e, Bool.and_false]
def rstr (s : Bytes) : Tup [.str] := (s, ())
theorem str_rows : ∀ l : List Bytes, rowsOf [.str] (l.map rstr) = l.map C.str
  | [] => rfl
  | x :: l => by
    have := str_rows l
    unfold rowsOf at this ⊢
    rw [List.map_cons, List.map_cons, List.flatten_cons, this]; rfl
/-- What a page says, if it was put. -/
theorem pl_get (h : P5At H v q) (hat : ∀ x ∈ q.st.lv, x.2 < 1000 + (q.tx.length : Int)) (hlen : q.tx.length ≤ 100000) (id p : Int) : WP (ref16_Plain_Get v id p H) fun x => Keep (fun _ => False) H x.2 ∧ x.1 = (match afind (pgs q.st.lv id) p with | none => ([], false, ()) | some a => if a < 1000 then ([], false, ()) else (txtP q a, true, ())) := by
  have k1 := Keep.app (fun _ => False) H [.cells (v5C v) .exact]
  have h1 := h.keep k1 fun _ _ hf => hf
  have t0 : (H ++ [Blk.cells (v5C v) .exact])[H.length]? = some (.cells (v5C v) .exact) := by rw [tl_get0]; rfl
  obtain ⟨G, g1, g2⟩ := rf_get h1.r id p
  have t1 := g2.get t0 fun hf => hf
  have h2 := h1.keep g2 fun _ _ hf => hf
  unfold ref16_Plain_Get
  refine wp_to (rd54 t0) (wp_to g1 ?_)
  cases hf : afind (pgs q.st.lv id) p with
  | none => exact wp_t rfl (wp_some ⟨k1.trans g2, rfl⟩)
  | some a =>
    have hm := (pgs_mem (afind_mem hf)).2.2
    have ha := hat _ hm
    simp only at ha
    refine wp_f rfl (wp_if (p := a < 1000) rfl (fun e => ?_) (fun e => ?_))
    · simp only [if_pos e]
      exact wp_some ⟨k1.trans g2, rfl⟩
    · simp only [if_neg e]
      obtain ⟨i, hi, ei⟩ : ∃ i : Nat, i < q.tx.length ∧ a = 1000 + (i : Int) := ⟨(a - 1000).toNat, by omega, by omega⟩
      have hwi : IntKind.wrap .i64 (a - 1000) = (i : Int) := by rw [wrap_i64 (by omega) (by omega)]; omega
      have hsl : rdSl 1 G H.length 4 = some v.2.2.2.2.1 := rdSl_of t1 rfl
      have hrow : Row G ([.str] : List CT).length v.2.2.2.2.1 (rowsOf [.str] (q.tx.map rstr)) := by rw [str_rows]; exact h2.t
      have hml : (q.tx.map rstr).length = q.tx.length := List.length_map _
      obtain ⟨b0, o0, r1, r2, _, cs, bk, r3, r4, r5⟩ := hrow.rd (i := i) (by omega) (by decide)
      have r1 : Sl.at 1 v.2.2.2.2.1 (i : Int) = some (b0, o0) := r1
      have hx : (q.tx.map rstr)[i]'(by omega) = rstr q.tx[i] := List.getElem_map _
      have r6 : rdS G b0 o0 = some q.tx[i] := by
        refine rdS_of r3 ?_
        have := congrArg (fun l => l[0]?) r5
        rw [hx] at this
        simp only [List.getElem?_take, List.getElem?_drop] at this
        have h2 : cs[o0]? = (Tup.mk [.str] (rstr q.tx[i]))[0]? := by simpa using this
        exact h2
      have etx : txtP q a = q.tx[i] := by
        unfold txtP
        rw [show (a - 1000).toNat = i by omega, List.getElem?_eq_getElem hi]; rfl
      refine wp_to hsl (wp_f (decide_eq_false (by rw [h2.tl, show IntKind.wrap .i64 ((some a : Option Int).getD 0 - 1000) = (i : Int) from hwi]; omega)) (wp_to hsl ?_))
      rw [show IntKind.wrap .i64 ((some a : Option Int).getD 0 - 1000) = (i : Int) from hwi]
      refine wp_to r1 (wp_to r6 (wp_some ⟨k1.trans g2, ?_⟩))
      rw [etx]
end
end Ev

namespace Ev
open Go (IntKind)

section
variable {H G K : Heap} {v v' v0 : P5} {w w' w0 : P6} {q q' : Pln} {t t' : Tx}
/-- All of a row, put behind nothing. -/
theorem app_all {b : Nat} {cs : List C} {n : Nat} (hb : K[b]? = some (.cells [] .exact)) (hn : cs.length = n) (hl : n ≤ 100000) : ∃ s' G', appS K 1 16 ⟨some (b, 0), 0, 0⟩ n cs = some (s', G') ∧ Em K ⟨some (b, 0), 0, 0⟩ 1 G' s' cs ∧ s'.len = n := by
  have h0 : Grown K 1 ⟨some (b, 0), 0, 0⟩ [] := ⟨rfl, rfl, fun hh => (by cases hh), fun a ha => by cases ha; exact ⟨rfl, .inr hb⟩⟩
  cases n with
  | zero =>
    have e : cs = [] := List.length_eq_zero_iff.1 hn
    subst e
    exact ⟨_, K, rfl, Em.start h0, rfl⟩
  | succ n =>
    obtain ⟨e1, e2⟩ := h0.app (bytes := 16) (by decide) (n := n + 1) (new := cs) (by omega) (by omega) (by simp only; omega) (by simp only; omega)
    rw [List.nil_append] at e1 e2
    refine ⟨_, _, e1, ⟨e2, grownH_keep _ _ _, fun a ha => ?_⟩, by simp⟩
    cases ha
    exact .inl (Nat.le_refl _)
theorem pl_put (h : P5At H v q) (id p : Int) (text : Bytes) (hl : q.tx.length ≤ 90000) : WP (ref16_Plain_Put v id p text H) fun x => x.1.2.1 = (q.st.applyS (1, id, p, 1000 + (q.tx.length : Int), 0, 0, ())).1 ∧
    ∃ q', P5Res H v x.2 x.1.1 q' ∧ ((q.st.applyS (1, id, p, 1000 + (q.tx.length : Int), 0, 0, ())).1 = 0 → q' = ⟨(q.st.applyS (1, id, p, 1000 + (q.tx.length : Int), 0, 0, ())).2, q.tx ++ [text]⟩) := by
  have k1 := Keep.app (fun _ => False) H [.cells (v5C v) .exact, .cells [.sl 3 Sl.nil, .sl 3 Sl.nil, .sl 1 Sl.nil, .sl 2 Sl.nil, .sl 1 Sl.nil] .exact]
  have h1 := h.keep k1 fun _ _ hf => hf
  have t0 : (H ++ [Blk.cells (v5C v) .exact, .cells [.sl 3 Sl.nil, .sl 3 Sl.nil, .sl 1 Sl.nil, .sl 2 Sl.nil, .sl 1 Sl.nil] .exact])[H.length]? = some (.cells (v5C v) .exact) := by rw [tl_get0]; rfl
  have t1 : (H ++ [Blk.cells (v5C v) .exact, .cells [.sl 3 Sl.nil, .sl 3 Sl.nil, .sl 1 Sl.nil, .sl 2 Sl.nil, .sl 1 Sl.nil] .exact])[H.length + 1]? = some (.cells [.sl 3 Sl.nil, .sl 3 Sl.nil, .sl 1 Sl.nil, .sl 2 Sl.nil, .sl 1 Sl.nil] .exact) := by rw [tl_get1]; rfl
  have hout : ∀ b, blk5 v b → b < H.length := fun b hb => h.lt hb
  unfold ref16_Plain_Put
  simp only [List.append_assoc, List.cons_append, List.nil_append, List.length_append, List.length_cons, List.length_nil, Nat.zero_add]
  generalize hG : H ++ [Blk.cells [.sl 3 v.1, .sl 3 v.2.1, .sl 1 v.2.2.1, .sl 2 v.2.2.2.1, .sl 1 v.2.2.2.2.1] .exact, .cells [.sl 3 Sl.nil, .sl 3 Sl.nil, .sl 1 Sl.nil, .sl 2 Sl.nil, .sl 1 Sl.nil] .exact] = H1
  have hG : H ++ [Blk.cells (v5C v) .exact, .cells [.sl 3 Sl.nil, .sl 3 Sl.nil, .sl 1 Sl.nil, .sl 2 Sl.nil, .sl 1 Sl.nil] .exact] = H1 := hG
  rw [hG] at k1 h1 t0 t1
  have hwl : IntKind.wrap .i64 (1000 + (v.2.2.2.2.1.len : Int)) = 1000 + (q.tx.length : Int) := by rw [h.tl, wrap_i64 (by omega) (by omega)]
  refine wp_to (rd54 t0) (wp_to (rdSl_of t0 (n := v.2.2.2.2.1) rfl) ?_)
  rw [hwl]
  refine wp_seq _ (rf_Do h1.r (x := (1, id, p, 1000 + (q.tx.length : Int), 0, 0, ())) (fun hh => absurd rfl hh) (fun hh => by simp at hh)) ?_
  rintro ⟨⟨u, e, ⟨⟩⟩, G⟩ ⟨he, hr⟩
  have he : e = (q.st.applyS (1, id, p, 1000 + (q.tx.length : Int), 0, 0, ())).1 := he
  have hr : RRes H1 (p4 v) G u (q.st.applyS (1, id, p, 1000 + (q.tx.length : Int), 0, 0, ())).2 := hr
  have hkG : Keep (fun _ => False) H1 G := hr.k
  have hw7 : wr (G ++ [Blk.cells [.sl 3 Sl.nil, .sl 3 Sl.nil, .sl 1 Sl.nil, .sl 2 Sl.nil] .exact]) G.length 0 [.sl 3 u.1, .sl 3 u.2.1, .sl 1 u.2.2.1, .sl 2 u.2.2.2.1] = some (G ++ [.cells (vC u) .exact]) := by
    rw [wr_t0, wr_c0 _ _ _ _ (by simp)]; rfl
  have k7 := Keep.app (fun _ => False) G [.cells (vC u) .exact]
  have k17 := hkG.trans k7
  have h7 := h1.keep k17 fun _ _ hf => hf
  have t07 := k17.get t0 fun hf => hf
  have t17 := k17.get t1 fun hf => hf
  have u7 : (G ++ [Blk.cells (vC u) .exact])[G.length]? = some (.cells (vC u) .exact) := by rw [tl_get0]; rfl
  have hu7 := hr.s.keep k7 fun _ _ hf => hf
  have hl1 := get_lt t1
  have hgl := hkG.len
  have hun : ∀ b, blkV u b → (blk5 v b ∨ H.length + 2 ≤ b) ∧ b < G.length := fun b hb => ⟨(hr.n b hb).elim (fun hh => .inl (.inl hh)) fun hh => .inr (by omega), hr.s.lt hb⟩
  refine wp_to hw7 (wp_if (p := ¬ e = 0) (by simp) (fun e0 => ?_) (fun e0 => ?_))
  · refine wp_to (rd5 t07) (ret5 (v0 := v) h7 (k1.trans k17) (by omega) t17 rfl (fun b hb => ⟨.inl hb, by have := hout b hb; omega⟩) fun G' hr' => ⟨he, q, hr', fun hz => absurd (he.trans hz) e0⟩)
  · have e0' : e = 0 := Decidable.byContradiction e0
    refine wp_to (rd4 u7) ?_
    simp only [List.append_assoc, List.cons_append, List.nil_append, List.length_append, List.length_cons, List.length_nil, Nat.zero_add]
    have k14 := Keep.app (fun _ => False) (G ++ [Blk.cells (vC u) .exact]) [.cells [] .exact, .cells [.str text] .exact]
    have k12 := Keep.app (fun _ => False) (G ++ [Blk.cells (vC u) .exact]) [.cells [] .exact]
    have e14 : G ++ [Blk.cells (vC u) .exact] ++ [.cells [] .exact, .cells [.str text] .exact] = G ++ [Blk.cells (vC u) .exact, .cells [] .exact, .cells [.str text] .exact] := by simp
    have e12 : G ++ [Blk.cells (vC u) .exact] ++ [.cells [] .exact] = G ++ [Blk.cells (vC u) .exact, .cells [] .exact] := by simp
    rw [e14] at k14
    rw [e12] at k12
    have t012 := k12.get t07 fun hf => hf
    have h14 := h7.keep k14 fun _ _ hf => hf
    have t114 := k14.get t17 fun hf => hf
    have u14 := k14.get u7 fun hf => hf
    have hu14 := hu7.keep k14 fun _ _ hf => hf
    have x14 : (G ++ [Blk.cells (vC u) .exact, .cells [] .exact, .cells [.str text] .exact])[G.length + 2]? = some (.cells [.str text] .exact) := by rw [tl_get1]; rfl
    have b14 : (G ++ [Blk.cells (vC u) .exact, .cells [] .exact, .cells [.str text] .exact])[G.length + 1]? = some (.cells [] .exact) := by rw [tl_get1]; rfl
    have l14 : (G ++ [Blk.cells (vC u) .exact, .cells [] .exact, .cells [.str text] .exact]).length = G.length + 3 := by simp
    obtain ⟨s', G', a1, a2, a3⟩ := app_all (cs := q.tx.map C.str) (n := v.2.2.2.2.1.len) b14 (by rw [List.length_map, h.tl]) (by rw [h.tl]; omega)
    generalize G ++ [Blk.cells (vC u) .exact, .cells [] .exact, .cells [.str text] .exact] = H14 at k14 h14 t114 u14 x14 b14 l14 hu14 a1 a2 ⊢
    have hne : ∀ b, b ≠ G.length + 1 → ∀ o, (⟨some (G.length + 1, 0), 0, 0⟩ : Sl).p ≠ some (b, o) := fun b hb o hp => by cases hp; exact hb rfl
    have u16 := a2.get u14 (hne _ (by omega))
    have x16 := a2.get x14 (hne _ (by omega))
    have hnx : ∀ o, s'.p ≠ some (G.length + 2, o) := fun o hp => by
      rcases a2.o _ hp with hh | ⟨o', hh⟩
      · simp only at hh; omega
      · exact hne _ (by omega) o' hh
    obtain ⟨s2, G2, c1, c2, c3, c4, c5⟩ := a2.app (bytes := 16) (by decide) (new := [.str text]) rfl (by rw [a3, h.tl]; omega) (by rw [a3, h.tl]; omega)
    have u19 := c2.get u14 (hne _ (by omega))
    have t119 := c2.get t114 (hne _ (by omega))
    have hsl16 : slRow G' 1 ⟨some (G.length + 2, 0), 1, 1⟩ = some [.str text] := by
      simp only [slRow, Heap.row, x16]
      rfl
    refine wp_to (rdSl_of t012 (n := v.2.2.2.2.1) rfl) (wp_to h14.t.row (wp_to a1 ?_))
    refine wp_to (rd4 u16) (wp_ite rfl (wp_ite x16 (wp_to hsl16 (wp_to c1 (wp_to (rd4 u19) (wp_ite rfl ?_))))))
    have hu19 : RfAt G2 u (q.st.applyS (1, id, p, 1000 + (q.tx.length : Int), 0, 0, ())).2 := hu14.keep c2.k fun b hb ⟨o, ho⟩ => by
      have := (hun b hb).2
      cases ho
      omega
    have h14l := k14.len
    have hk19 : Keep (fun _ => False) H G2 := ⟨by have := (k1.trans k17).len; have := c2.k.len; omega, fun b hb _ => by
      rw [c2.k.same b (by have := (k1.trans k17).len; omega) fun ⟨o, ho⟩ => by cases ho; omega]
      exact ((k1.trans k17).trans k14).same b hb fun hf => hf⟩
    have hs2 : ∀ b o, s2.p = some (b, o) → G.length ≤ b := fun b o hp => by
      rcases c2.o _ hp with hh | ⟨o', hh⟩
      · simp only at hh; omega
      · have hh : some (G.length + 1, 0) = some (b, o') := hh
        injection hh with hh
        injection hh with h1 h2
        omega
    refine ret5 (v' := (u.1, u.2.1, u.2.2.1, u.2.2.2.1, s2, ())) (q' := ⟨(q.st.applyS (1, id, p, 1000 + (q.tx.length : Int), 0, 0, ())).2, q.tx ++ [text]⟩) (v0 := v) ⟨hu19, ?_, ?_⟩ hk19 (by omega) t119 rfl (fun b hb => ?_) fun G' hr' => ⟨e0'.symm.trans he, _, hr', fun _ => rfl⟩
    · rw [List.map_append]; exact Row.grown c2.g
    · show s2.len = (q.tx ++ [text]).length
      rw [c3, a3, h.tl]; simp
    · rcases hb with hb | ⟨o, hp⟩
      · have := hun b hb
        exact ⟨this.1.imp_right fun hh => by omega, by rcases this.1 with hh | hh
                                                       · have := hout b hh; omega
                                                       · omega⟩
      · have := hs2 b o hp
        exact ⟨.inr (by omega), by omega⟩
end
end Ev

namespace Ev
open Go (IntKind)

section
variable {H G K : Heap} {u : RfV} {st : Sta} {w w' : P6} {t t' : Tx} {r : RoomT} {R B : Nat}
theorem pl_sealed (h : RfAt H u st) (id : Int) : WP (law17_sealed u id H) fun x => x.1.1 = mayS st id ∧ Keep (fun _ => False) H x.2 := by
  have k1 := Keep.app (fun _ => False) H [.cells (vC u) .exact]
  have h1 := h.keep k1 fun _ _ hf => hf
  have hv : rdSl 3 (H ++ [.cells (vC u) .exact]) H.length 0 = some u.1 := rdSl_of (by rw [tl_get0]; rfl) rfl
  have hlm : (st.sp.map rsp).length = st.sp.length := List.length_map _
  have hfew := h.w.few
  unfold law17_sealed
  refine wp_seq (fun x => x.2 = H ++ [.cells (vC u) .exact] ∧ ((x.1 = .inl () ∧ mayS st id = 80) ∨ x.1 = .inr (mayS st id, ()))) (wp_mono (wp_rise (step := law17_sealed.s1 id H) st.sp.length (fun i (y : Int × Unit) G => y = ((i : Int), ()) ∧ G = H ++ [.cells (vC u) .exact] ∧ ∀ j (hj : j < st.sp.length), j < i → st.sp[j].1 ≠ id)
    (fun (x : Unit ⊕ (Int × Unit)) G => G = H ++ [.cells (vC u) .exact] ∧ ((x = .inl () ∧ mayS st id = 80) ∨ x = .inr (mayS st id, ()))) ?_ ?_ ⟨rfl, rfl, fun j _ hj => absurd hj (Nat.not_lt_zero _)⟩) fun x hx => hx) ?_
  · rintro i y G hi ⟨rfl, rfl, hj⟩
    have hx : (st.sp.map rsp)[i]'(by omega) = rsp st.sp[i] := List.getElem_map _
    obtain ⟨b0, o0, r1, r2, _, cs, bk, r3, r4, r5⟩ := Row.rd (cts := ctP) (rows := st.sp.map rsp) h1.sp (i := i) (by omega) (by decide)
    have r1 : Sl.at 3 u.1 (i : Int) = some (b0, o0) := r1
    rw [hx] at r5
    have c0 : rdI .i64 (H ++ [.cells (vC u) .exact]) b0 o0 = some st.sp[i].1 := by
      refine rdI_of r3 ?_
      have := congrArg (fun l => l[0]?) r5
      simp only [List.getElem?_take, List.getElem?_drop] at this
      have h2 : cs[o0]? = (Tup.mk ctP (rsp st.sp[i]))[0]? := by simpa using this
      exact h2
    have c2 : rdB (H ++ [.cells (vC u) .exact]) b0 (o0 + 2) = some st.sp[i].2.2 := by
      refine rdB_of r3 ?_
      have := congrArg (fun l => l[2]?) r5
      simp only [List.getElem?_take, List.getElem?_drop] at this
      have h2 : cs[o0 + 2]? = (Tup.mk ctP (rsp st.sp[i]))[2]? := by simpa using this
      exact h2
    have hf := h.w.sp.find (k := st.sp[i].1) (v := st.sp[i].2) (List.getElem_mem hi)
    have hw := wrap_succ (show i < 9223372036854775807 by omega)
    unfold law17_sealed.s1
    refine wp_to hv (wp_t (decide_eq_true (by rw [h.spl]; exact Int.ofNat_lt.2 hi)) (wp_to hv (wp_to r1 (wp_to c0 (wp_if (p := st.sp[i].1 = id) rfl (fun e => ?_) (fun e => ?_))))))
    · rw [e] at hf
      refine wp_to hv (wp_to r1 (wp_to c2 (wp_c (fun eb => wp_some ⟨rfl, .inr ?_⟩) (fun eb => wp_some ⟨rfl, .inr ?_⟩))))
      · unfold mayS; rw [hf]; simp only [if_pos eb]
      · unfold mayS; rw [hf]; simp only [if_neg (show ¬ st.sp[i].2.2 = true by rw [eb]; decide)]
    · refine wp_some ⟨?_, rfl, fun j hjl hji => ?_⟩
      · simp only [hw]
      · by_cases e2 : j = i
        · subst e2; exact e
        · exact hj j hjl (by omega)
  · rintro y G ⟨rfl, rfl, hj⟩
    unfold law17_sealed.s1
    refine wp_to hv (wp_f (decide_eq_false (by rw [h.spl]; exact Int.lt_irrefl _)) (wp_some ⟨rfl, .inl ⟨rfl, ?_⟩⟩))
    unfold mayS
    rw [afind_none fun x hx e => by obtain ⟨j, hj1, rfl⟩ := List.getElem_of_mem hx; exact hj j hj1 hj1 e]
  · rintro ⟨x, G⟩ ⟨hG, hx⟩
    have hG : G = H ++ [.cells (vC u) .exact] := hG
    subst hG
    rcases hx with ⟨hx, hm⟩ | hx
    · have hx : x = .inl () := hx
      subst hx
      exact wp_some ⟨hm.symm, k1⟩
    · have hx : x = .inr (mayS st id, ()) := hx
      subst hx
      exact wp_some ⟨rfl, k1⟩
def nil6 : List C := [.sl 3 Sl.nil, .sl 3 Sl.nil, .sl 1 Sl.nil, .sl 2 Sl.nil, .sl 1 Sl.nil, .int .i64 0]
/-- In the middle of a method of a plain transaction. -/
structure TxM (H : Heap) (w : P6) (t : Tx) (r : RoomT) (R B : Nat) (G : Heap) : Prop where
  s : P6At G w t
  k : Keep (fun _ => False) H G
  b0 : G[H.length]? = some (.cells (v6C w) .exact)
  br : G[R]? = some (.cells [.int .i64 r.1, .int .i64 r.2.1, .int .i64 r.2.2.1, .int .i64 r.2.2.2.1] .exact)
  bB : G[B]? = some (.cells nil6 .exact)
  hB : H.length < B
  o : ∀ b, blk5 (p5 w) b → b < H.length
theorem TxM.keep (m : TxM H w t r R B G) (k : Keep (fun _ => False) G K) : TxM H w t r R B K :=
  ⟨m.s.keep k fun _ _ hf => hf, m.k.trans k, k.get m.b0 fun hf => hf, k.get m.br fun hf => hf, k.get m.bB fun hf => hf, m.hB, m.o⟩
theorem TxM.room (m : TxM H w t r R B G) : rd G (.agg [.int .i64, .int .i64, .int .i64, .int .i64]) R 0 = (some r : Option RoomT) := rd_agg_of m.br (by simp) (by obtain ⟨r1, r2, r3, r4, ⟨⟩⟩ := r; rfl)
theorem TxM.many (m : TxM H w t r R B G) : rdI .i64 G H.length 5 = some (t.many : Int) := by
  rw [← m.s.m]; exact rdI_of m.b0 rfl
def TxQ (H : Heap) (w : P6) (a : Int × Tx) (x : (P6 × Int × Unit) × Heap) : Prop := x.1.2.1 = a.1 ∧ P6Res H w x.2 x.1.1 a.2
theorem TxM.err (m : TxM H w t r R B G) {e : Int} {a : Int × Tx} (ha : a = (e, t)) :
    WP (Option.bind (α := P6) (rd G (.agg [.sl 3, .sl 3, .sl 1, .sl 2, .sl 1, .int .i64]) H.length 0) fun v4 => (wr G B 0 [.sl 3 v4.1, .sl 3 v4.2.1, .sl 1 v4.2.2.1, .sl 2 v4.2.2.2.1, .sl 1 v4.2.2.2.2.1, .int .i64 v4.2.2.2.2.2.1]).bind fun (H57 : Heap) => Option.bind (α := P6) (rd H57 (.agg [.sl 3, .sl 3, .sl 1, .sl 2, .sl 1, .int .i64]) B 0) fun v58 => some ((v58, e, ()), H57)) (TxQ H w a) := by
  subst ha
  have hB := m.hB
  exact wp_to (rd6 m.b0) (ret6 (w0 := w) m.s m.k (by omega) m.bB rfl (fun b hb => ⟨.inl hb, by have := m.o b hb; omega⟩) fun G' hr => ⟨rfl, hr⟩)
/-- The end: there is room, or not. -/
theorem TxM.fin (m : TxM H w t r R B G) {v : P5} {q : Pln} {N : Nat} (hv : P5At G v q) (hN : G[N]? = some (.cells (v5C v) .exact)) (hn : ∀ b, blk5 v b → (blk5 (p5 w) b ∨ H.length ≤ b) ∧ b ≠ B) (h8 : ¬ 8 ≤ t.many) {a : Int × Tx} (ha : a = if fitS q.st r = true then (0, ⟨q, t.many + 1⟩) else (172, t)) :
    WP (Option.bind (α := P5) (rd G (.agg [.sl 3, .sl 3, .sl 1, .sl 2, .sl 1]) N 0) fun (v23 : P5) =>
 Option.bind (α := RoomT) (rd G (.agg [.int .i64, .int .i64, .int .i64, .int .i64]) R 0) fun (v24 : RoomT) =>
 (ref16_Plain_Fits (v23.1, v23.2.1, v23.2.2.1, v23.2.2.2.1, v23.2.2.2.2.1, ()) (v24.1, v24.2.1, v24.2.2.1, v24.2.2.2.1, ()) G).bind fun (r25 : ((Bool × Unit) × Heap)) =>
 cond (!r25.1.1) (
 Option.bind (α := P6) (rd r25.2 (.agg [.sl 3, .sl 3, .sl 1, .sl 2, .sl 1, .int .i64]) H.length 0) fun (v26 : P6) =>
 (wr r25.2 B 0 [.sl 3 v26.1, .sl 3 v26.2.1, .sl 1 v26.2.2.1, .sl 2 v26.2.2.2.1, .sl 1 v26.2.2.2.2.1, .int .i64 v26.2.2.2.2.2.1]).bind fun (H27 : Heap) =>
 Option.bind (α := P6) (rd H27 (.agg [.sl 3, .sl 3, .sl 1, .sl 2, .sl 1, .int .i64]) B 0) fun (v28 : P6) =>
 some ((v28, 172, ()), H27)) (
 Option.bind (α := P5) (rd r25.2 (.agg [.sl 3, .sl 3, .sl 1, .sl 2, .sl 1]) N 0) fun (v29 : P5) =>
 (rdI .i64 r25.2 H.length 5).bind fun (v30 : Int) =>
 (wr r25.2 B 0 [.sl 3 v29.1, .sl 3 v29.2.1, .sl 1 v29.2.2.1, .sl 2 v29.2.2.2.1, .sl 1 v29.2.2.2.2.1, .int .i64 (IntKind.wrap .i64 (v30 + 1))]).bind fun (H31 : Heap) =>
 Option.bind (α := P6) (rd H31 (.agg [.sl 3, .sl 3, .sl 1, .sl 2, .sl 1, .int .i64]) B 0) fun (v32 : P6) =>
 some ((v32, 0, ()), H31))) (TxQ H w a) := by
  have hB := m.hB
  refine wp_to (rd5 hN) (wp_to m.room (wp_seq _ (pl_fits hv r) ?_))
  rintro ⟨⟨ff, ⟨⟩⟩, G3⟩ ⟨hfit, hk3⟩
  have hfit : ff = fitS q.st r := hfit
  subst hfit
  have hk3 : Keep (fun _ => False) G G3 := hk3
  have m3 := m.keep hk3
  refine wp_c (fun e9 => ?_) (fun e9 => ?_)
  · have e9 : ¬ fitS q.st r = true := by simpa using e9
    rw [if_neg e9] at ha
    exact m3.err ha
  · have e9 : fitS q.st r = true := by simpa using e9
    rw [if_pos e9] at ha
    subst ha
    refine wp_to (rd5 (hk3.get hN fun hf => hf)) (wp_to m3.many ?_)
    rw [wrap_succ (by omega)]
    exact ret6 (w' := (v.1, v.2.1, v.2.2.1, v.2.2.2.1, v.2.2.2.2.1, ((t.many + 1 : Nat) : Int), ())) (t' := ⟨q, t.many + 1⟩) (w0 := w) ⟨hv.keep hk3 fun _ _ hf => hf, rfl⟩ m3.k (by omega) m3.bB rfl hn fun G' hr => ⟨rfl, hr⟩
theorem tx_put (h : P6At H w t) (id p : Int) (text : Bytes) (r : RoomT) (size : Int) (hl : t.p.tx.length ≤ 90000) : WP (law17_Plain_Put w id p text r size H) (TxQ H w (t.putS id p text r size)) := by
  have m : TxM H w t r (H.length + 1) (H.length + 2) (H ++ [.cells (v6C w) .exact, .cells [.int .i64 r.1, .int .i64 r.2.1, .int .i64 r.2.2.1, .int .i64 r.2.2.2.1] .exact, .cells nil6 .exact]) :=
    ⟨h.keep (Keep.app (fun _ => False) H _) fun _ _ hf => hf, Keep.app _ _ _, by rw [tl_get0]; rfl, by rw [tl_get1]; rfl, by rw [tl_get1]; rfl, by omega, fun b hb => h.p.lt hb⟩
  unfold law17_Plain_Put
  simp only [List.append_assoc, List.cons_append, List.nil_append, List.length_append, List.length_cons, List.length_nil, Nat.zero_add]
  generalize hG : H ++ [Blk.cells [.sl 3 w.1, .sl 3 w.2.1, .sl 1 w.2.2.1, .sl 2 w.2.2.2.1, .sl 1 w.2.2.2.2.1, .int .i64 w.2.2.2.2.2.1] .exact, .cells [.int .i64 r.1, .int .i64 r.2.1, .int .i64 r.2.2.1, .int .i64 r.2.2.2.1] .exact, .cells [.sl 3 Sl.nil, .sl 3 Sl.nil, .sl 1 Sl.nil, .sl 2 Sl.nil, .sl 1 Sl.nil, .int .i64 0] .exact] = G0
  have hG : H ++ [Blk.cells (v6C w) .exact, .cells [.int .i64 r.1, .int .i64 r.2.1, .int .i64 r.2.2.1, .int .i64 r.2.2.2.1] .exact, .cells nil6 .exact] = G0 := hG
  rw [hG] at m
  refine wp_if (p := size < (text.length : Int)) rfl (fun e => ?_) (fun e => ?_)
  · exact m.err (by unfold Tx.putS; rw [if_pos e])
  refine wp_to (rd64 m.b0) (wp_seq _ (pl_sealed m.s.p.r id) ?_)
  rintro ⟨⟨ee, ⟨⟩⟩, G1⟩ ⟨he, hk1⟩
  have he : ee = mayS t.p.st id := he
  subst he
  have hk1 : Keep (fun _ => False) G0 G1 := hk1
  have m1 := m.keep hk1
  refine wp_if (p := ¬ mayS t.p.st id = 0) (by simp) (fun e0 => ?_) (fun e0 => ?_)
  · exact m1.err (by unfold Tx.putS; rw [if_neg e, if_pos e0])
  refine wp_to m1.many (wp_if (p := 8 ≤ t.many) (decide_eq_decide.2 (by omega)) (fun e8 => ?_) (fun e8 => ?_))
  · exact m1.err (by unfold Tx.putS Tx.stepP; rw [if_neg e, if_neg e0, if_pos e8])
  refine wp_to (rd65 m1.b0) (wp_seq _ (pl_put m1.s.p id p text hl) ?_)
  rintro ⟨⟨v', e', ⟨⟩⟩, G2⟩ ⟨he', q', hr, hq⟩
  have he' : e' = (t.p.st.applyS (1, id, p, 1000 + (t.p.tx.length : Int), 0, 0, ())).1 := he'
  have hr : P5Res G1 (p5 w) G2 v' q' := hr
  have m2 := m1.keep hr.k
  have hw : wr (G2 ++ [Blk.cells [.sl 3 Sl.nil, .sl 3 Sl.nil, .sl 1 Sl.nil, .sl 2 Sl.nil, .sl 1 Sl.nil] .exact]) G2.length 0 [.sl 3 v'.1, .sl 3 v'.2.1, .sl 1 v'.2.2.1, .sl 2 v'.2.2.2.1, .sl 1 v'.2.2.2.2.1] = some (G2 ++ [.cells (v5C v') .exact]) := by
    rw [wr_t0, wr_c0 _ _ _ _ (by simp)]; rfl
  have k3 := Keep.app (fun _ => False) G2 [.cells (v5C v') .exact]
  have m3 := m2.keep k3
  have hB1 := get_lt m1.bB
  refine wp_to hw (wp_if (p := ¬ e' = 0) (by simp) (fun e1 => ?_) (fun e1 => ?_))
  · refine m3.err ?_
    unfold Tx.putS Tx.stepP putR
    rw [he'] at e1
    rw [if_neg e, if_neg e0, if_neg e8, if_pos e1, he']
  · have e1' : e' = 0 := Decidable.byContradiction e1
    have hq := hq (he'.symm.trans e1')
    subst hq
    refine m3.fin (hr.s.keep k3 fun _ _ hf => hf) (by rw [tl_get0]; rfl) (fun b hb => ?_) e8 ?_
    · rcases hr.n b hb with hh | hh
      · have := m.o b hh
        exact ⟨.inl hh, by omega⟩
      · have := m1.k.len
        exact ⟨.inr (by omega), by omega⟩
    · unfold Tx.putS Tx.stepP putR
      rw [he'] at e1
      rw [if_neg e, if_neg e0, if_neg e8, if_neg e1]
end
end Ev

namespace Ev
open Go (IntKind)

section
variable {H G K : Heap} {u : RfV} {st : Sta} {w w' : P6} {t t' : Tx} {r : RoomT} {R B : Nat}
def BoxQ (H : Heap) (w : P6) (t : Tx) (B : Nat) (G : Heap) : Prop := P6Res H w G w t ∧ G[B]? = some (.cells (v6C w) .exact)
theorem TxM.box (m : TxM H w t r R B G) {e : Int} :
    WP (Option.bind (α := P6) (rd G (.agg [.sl 3, .sl 3, .sl 1, .sl 2, .sl 1, .int .i64]) H.length 0) fun v4 => (wr G B 0 [.sl 3 v4.1, .sl 3 v4.2.1, .sl 1 v4.2.2.1, .sl 2 v4.2.2.2.1, .sl 1 v4.2.2.2.2.1, .int .i64 v4.2.2.2.2.2.1]).bind fun (H57 : Heap) => (some (Sum.inr (e, ()), H57) : Option ((Unit ⊕ (Int × Unit)) × Heap))) fun x => x.1 = .inr (e, ()) ∧ BoxQ H w t B x.2 := by
  have hB := m.hB
  refine wp_to (rd6 m.b0) (wp_to (wr6 m.bB rfl w) (wp_some ⟨rfl, P6Res.box m.s m.k (by omega) (fun b hb => ⟨.inl hb, by have := m.o b hb; omega⟩) _, set_get (get_lt m.bB)⟩))
theorem BoxQ.ret (h : BoxQ H w t B G) {e : Int} {a : Int × Tx} (ha : a = (e, t)) : WP (Option.bind (α := P6) (rd G (.agg [.sl 3, .sl 3, .sl 1, .sl 2, .sl 1, .int .i64]) B 0) fun v57 => some ((v57, e, ()), G)) (TxQ H w a) := by
  subst ha
  exact wp_to (rd6 h.2) (wp_some ⟨rfl, h.1⟩)
theorem tx_do (h : P6At H w t) (x : RecT) (r : RoomT) : WP (law17_Plain_Do w x r H) (TxQ H w (t.doS x r)) := by
  have m : TxM H w t r (H.length + 2) (H.length + 3) (H ++ [.cells (v6C w) .exact, recB x, .cells [.int .i64 r.1, .int .i64 r.2.1, .int .i64 r.2.2.1, .int .i64 r.2.2.2.1] .exact, .cells nil6 .exact]) :=
    ⟨h.keep (Keep.app (fun _ => False) H _) fun _ _ hf => hf, Keep.app _ _ _, by rw [tl_get0]; rfl, by rw [tl_get1]; rfl, by rw [tl_get1]; rfl, by omega, fun b hb => h.p.lt hb⟩
  have tx : (H ++ [.cells (v6C w) .exact, recB x, .cells [.int .i64 r.1, .int .i64 r.2.1, .int .i64 r.2.2.1, .int .i64 r.2.2.2.1] .exact, .cells nil6 .exact])[H.length + 1]? = some (recB x) := by rw [tl_get1]; rfl
  unfold law17_Plain_Do
  simp only [List.append_assoc, List.cons_append, List.nil_append, List.length_append, List.length_cons, List.length_nil, Nat.zero_add]
  generalize hG : H ++ [Blk.cells [.sl 3 w.1, .sl 3 w.2.1, .sl 1 w.2.2.1, .sl 2 w.2.2.2.1, .sl 1 w.2.2.2.2.1, .int .i64 w.2.2.2.2.2.1] .exact, .cells [.int .i64 x.1, .int .i64 x.2.1, .int .i64 x.2.2.1, .int .i64 x.2.2.2.1, .int .i64 x.2.2.2.2.1, .int .i64 x.2.2.2.2.2.1] .exact, .cells [.int .i64 r.1, .int .i64 r.2.1, .int .i64 r.2.2.1, .int .i64 r.2.2.2.1] .exact, .cells [.sl 3 Sl.nil, .sl 3 Sl.nil, .sl 1 Sl.nil, .sl 2 Sl.nil, .sl 1 Sl.nil, .int .i64 0] .exact] = G0
  have hG : H ++ [.cells (v6C w) .exact, recB x, .cells [.int .i64 r.1, .int .i64 r.2.1, .int .i64 r.2.2.1, .int .i64 r.2.2.2.1] .exact, .cells nil6 .exact] = G0 := hG
  rw [hG] at m tx
  have rx : ∀ {G : Heap}, G[H.length + 1]? = some (recB x) → rd G (.agg [.int .i64, .int .i64, .int .i64, .int .i64, .int .i64, .int .i64]) (H.length + 1) 0 = (some x : Option RecT) := fun hb => rd_agg_of hb (by simp) (by obtain ⟨a, b, c, d, e, f, ⟨⟩⟩ := x; rfl)
  have hc : ref07_Check (x.1, x.2.1, x.2.2.1, x.2.2.2.1, x.2.2.2.2.1, x.2.2.2.2.2.1, ()) = some (chkR x, ()) := by
    obtain ⟨a, b, c, d, e, f, ⟨⟩⟩ := x
    exact ref07_check_eq _
  refine wp_seq (fun p => (p.1 = .inl () ∧ (ownK x = true ∧ chkR x = true) ∧ p.2 = G0) ∨ (p.1 = .inr (1, ()) ∧ ¬ (ownK x = true ∧ chkR x = true) ∧ BoxQ H w t (H.length + 3) p.2)) ?_ ?_
  · have hchk : ∀ ho : ownK x = true, WP (Option.bind (α := RecT) (rd G0 (.agg [.int .i64, .int .i64, .int .i64, .int .i64, .int .i64, .int .i64]) (H.length + 1) 0) fun v6 =>
        (ref07_Check (v6.1, v6.2.1, v6.2.2.1, v6.2.2.2.1, v6.2.2.2.2.1, v6.2.2.2.2.2.1, ())).bind fun (r7 : (Bool × Unit)) =>
        cond (!r7.1) (Option.bind (α := P6) (rd G0 (.agg [.sl 3, .sl 3, .sl 1, .sl 2, .sl 1, .int .i64]) H.length 0) fun v8 => (wr G0 (H.length + 3) 0 [.sl 3 v8.1, .sl 3 v8.2.1, .sl 1 v8.2.2.1, .sl 2 v8.2.2.2.1, .sl 1 v8.2.2.2.2.1, .int .i64 v8.2.2.2.2.2.1]).bind fun (H9 : Heap) => (some (Sum.inr (1, ()), H9) : Option ((Unit ⊕ (Int × Unit)) × Heap))) (some (Sum.inl (), G0)))
        fun p => (p.1 = .inl () ∧ (ownK x = true ∧ chkR x = true) ∧ p.2 = G0) ∨ (p.1 = .inr (1, ()) ∧ ¬ (ownK x = true ∧ chkR x = true) ∧ BoxQ H w t (H.length + 3) p.2) := fun ho => by
      refine wp_to (rx tx) (wp_to hc (wp_c (fun e => ?_) (fun e => ?_)))
      · have e : ¬ chkR x = true := by simpa using e
        exact wp_mono m.box fun y hy => .inr ⟨hy.1, fun hh => e hh.2, hy.2⟩
      · have e : chkR x = true := by simpa using e
        exact wp_some (.inl ⟨rfl, ⟨ho, e⟩, rfl⟩)
    refine wp_to (rdI_of tx (n := x.1) rfl) (wp_if (p := x.1 = 2) rfl (fun e => ?_) (fun e => ?_))
    · exact hchk (by unfold ownK; exact decide_eq_true (.inl e))
    · refine wp_to (rdI_of tx (n := x.1) rfl) (wp_if (p := 4 ≤ x.1) rfl (fun e2 => ?_) (fun e2 => ?_))
      · refine wp_to (rdI_of tx (n := x.1) rfl) (wp_if (p := ¬ x.1 ≤ 7) decide_not.symm (fun e3 => ?_) (fun e3 => ?_))
        · exact wp_mono m.box fun y hy => .inr ⟨hy.1, fun hh => by
            have h1 := hh.1
            unfold ownK at h1
            have := of_decide_eq_true h1
            omega, hy.2⟩
        · exact hchk (by unfold ownK; exact decide_eq_true (.inr ⟨e2, by omega⟩))
      · exact wp_mono m.box fun y hy => .inr ⟨hy.1, fun hh => by
          have h1 := hh.1
          unfold ownK at h1
          have := of_decide_eq_true h1
          omega, hy.2⟩
  rintro ⟨p, G1⟩ (⟨hp, ho, hG1⟩ | ⟨hp, hno, hbox⟩)
  · have hp : p = .inl () := hp
    have hG1 : G1 = G0 := hG1
    subst hp hG1
    have hk : x.1 = 2 ∨ (4 ≤ x.1 ∧ x.1 ≤ 7) := by
      have h1 := ho.1
      unfold ownK at h1
      exact of_decide_eq_true h1
    have hd : t.doS x r = if x.1 = 2 ∧ mayS t.p.st x.2.1 ≠ 0 then (mayS t.p.st x.2.1, t) else t.stepD x r := by unfold Tx.doS; rw [if_pos ho]
    refine wp_seq (fun p => (p.1 = .inl () ∧ ¬ (x.1 = 2 ∧ mayS t.p.st x.2.1 ≠ 0) ∧ Keep (fun _ => False) G1 p.2) ∨ (p.1 = .inr (mayS t.p.st x.2.1, ()) ∧ (x.1 = 2 ∧ mayS t.p.st x.2.1 ≠ 0) ∧ BoxQ H w t (H.length + 3) p.2)) ?_ ?_
    · refine wp_to (rdI_of tx (n := x.1) rfl) (wp_if (p := x.1 = 2) rfl (fun e => ?_) (fun e => ?_))
      · refine wp_to (rd64 m.b0) (wp_to (rdI_of tx (n := x.2.1) rfl) (wp_seq _ (pl_sealed m.s.p.r x.2.1) ?_))
        rintro ⟨⟨ee, ⟨⟩⟩, G2⟩ ⟨he, hk2⟩
        have he : ee = mayS t.p.st x.2.1 := he
        subst he
        have hk2 : Keep (fun _ => False) G1 G2 := hk2
        refine wp_if (p := ¬ mayS t.p.st x.2.1 = 0) (by simp) (fun e0 => ?_) (fun e0 => ?_)
        · exact wp_mono (m.keep hk2).box fun y hy => .inr ⟨hy.1, ⟨e, e0⟩, hy.2⟩
        · exact wp_some (.inl ⟨rfl, fun hh => e0 hh.2, hk2⟩)
      · exact wp_some (.inl ⟨rfl, fun hh => e hh.1, Keep.refl _ _⟩)
    rintro ⟨p, G2⟩ (⟨hp, hn, hk2⟩ | ⟨hp, hy, hbox⟩)
    · have hp : p = .inl () := hp
      subst hp
      have hk2 : Keep (fun _ => False) G1 G2 := hk2
      have m2 := m.keep hk2
      have tx2 := hk2.get tx fun hf => hf
      rw [if_neg hn] at hd
      refine wp_to m2.many (wp_if (p := 8 ≤ t.many) (decide_eq_decide.2 (by omega)) (fun e8 => ?_) (fun e8 => ?_))
      · exact m2.err (by rw [hd]; unfold Tx.stepD; rw [if_pos e8])
      refine wp_to (rd64 m2.b0) (wp_to (rx tx2) (wp_seq _ (rf_Do m2.s.p.r (x := x) (fun _ => chk_good ho.2) (chk_nine ho.2)) ?_))
      rintro ⟨⟨v', e', ⟨⟩⟩, G3⟩ ⟨he', hr⟩
      have he' : e' = (t.p.st.applyS x).1 := he'
      have hr : RRes G2 (p4 (p5 w)) G3 v' (t.p.st.applyS x).2 := hr
      have m3 := m2.keep hr.k
      have hw : wr (G3 ++ [Blk.cells [.sl 3 Sl.nil, .sl 3 Sl.nil, .sl 1 Sl.nil, .sl 2 Sl.nil] .exact]) G3.length 0 [.sl 3 v'.1, .sl 3 v'.2.1, .sl 1 v'.2.2.1, .sl 2 v'.2.2.2.1] = some (G3 ++ [.cells (vC v') .exact]) := by
        rw [wr_t0, wr_c0 _ _ _ _ (by simp)]; rfl
      have k4 := Keep.app (fun _ => False) G3 [.cells (vC v') .exact]
      have m4 := m3.keep k4
      have u4 : (G3 ++ [Blk.cells (vC v') .exact])[G3.length]? = some (.cells (vC v') .exact) := by rw [tl_get0]; rfl
      refine wp_to hw (wp_if (p := ¬ e' = 0) (by simp) (fun e1 => ?_) (fun e1 => ?_))
      · refine m4.err ?_
        rw [he'] at e1
        rw [hd]
        unfold Tx.stepD
        rw [if_neg e8, if_pos e1, he']
      · have hs4 : rdSl 1 (G3 ++ [Blk.cells (vC v') .exact]) H.length 4 = some w.2.2.2.2.1 := rdSl_of m4.b0 rfl
        have hw5 : wr (G3 ++ [Blk.cells (vC v') .exact] ++ [.cells [.sl 3 Sl.nil, .sl 3 Sl.nil, .sl 1 Sl.nil, .sl 2 Sl.nil, .sl 1 Sl.nil] .exact]) (G3 ++ [Blk.cells (vC v') .exact]).length 0 [.sl 3 v'.1, .sl 3 v'.2.1, .sl 1 v'.2.2.1, .sl 2 v'.2.2.2.1, .sl 1 w.2.2.2.2.1] = some (G3 ++ [Blk.cells (vC v') .exact] ++ [.cells (v5C (v'.1, v'.2.1, v'.2.2.1, v'.2.2.2.1, w.2.2.2.2.1, ())) .exact]) := by
          rw [wr_t0, wr_c0 _ _ _ _ (by simp)]; rfl
        have k5 := Keep.app (fun _ => False) (G3 ++ [Blk.cells (vC v') .exact]) [.cells (v5C (v'.1, v'.2.1, v'.2.2.1, v'.2.2.2.1, w.2.2.2.2.1, ())) .exact]
        have m5 := m4.keep k5
        have hN : (G3 ++ [Blk.cells (vC v') .exact] ++ [.cells (v5C (v'.1, v'.2.1, v'.2.2.1, v'.2.2.2.1, w.2.2.2.2.1, ())) .exact])[(G3 ++ [Blk.cells (vC v') .exact]).length]? = some (.cells (v5C (v'.1, v'.2.1, v'.2.2.1, v'.2.2.2.1, w.2.2.2.2.1, ())) .exact) := by rw [tl_get0]; rfl
        have hv5 : P5At (G3 ++ [Blk.cells (vC v') .exact] ++ [.cells (v5C (v'.1, v'.2.1, v'.2.2.1, v'.2.2.2.1, w.2.2.2.2.1, ())) .exact]) (v'.1, v'.2.1, v'.2.2.1, v'.2.2.2.1, w.2.2.2.2.1, ()) ⟨(t.p.st.applyS x).2, t.p.tx⟩ :=
          ⟨(hr.s.keep k4 fun _ _ hf => hf).keep k5 fun _ _ hf => hf, m5.s.p.t, m5.s.p.tl⟩
        generalize hG6 : G3 ++ [Blk.cells (vC v') .exact] ++ [.cells (v5C (v'.1, v'.2.1, v'.2.2.1, v'.2.2.2.1, w.2.2.2.2.1, ())) .exact] = G6 at hw5 m5 hN hv5
        refine wp_to (rd4 u4) (wp_to hs4 (wp_to hw5 (m5.fin hv5 hN (fun b hb => ?_) e8 ?_)))
        · rcases hb with hb | hb
          · rcases hr.n b hb with hh | hh
            · have := m.o b (.inl hh)
              exact ⟨.inl (.inl hh), by omega⟩
            · have h1 := m2.k.len
              have h2 := get_lt m2.bB
              exact ⟨.inr (by omega), by omega⟩
          · have := m.o b (.inr hb)
            exact ⟨.inl (.inr hb), by omega⟩
        · rw [he'] at e1
          rw [hd]
          unfold Tx.stepD
          rw [if_neg e8, if_neg e1]
    · have hp : p = .inr (mayS t.p.st x.2.1, ()) := hp
      subst hp
      rw [if_pos hy] at hd
      exact hbox.ret hd
  · have hp : p = .inr (1, ()) := hp
    subst hp
    exact hbox.ret (by unfold Tx.doS; rw [if_neg hno])
end
end Ev

