/- The plain state: how often blocks were erased. -/
import Derived.Test.YtfmefnejaocopaaSRfG
set_option linter.unusedSimpArgs false
set_option linter.unusedVariables false
namespace Ev
open Go (IntKind)

section
variable {H G : Heap} {v v' : RfV} {st st' : Sta}
def WornI (st : Sta) (K : Heap) (s0 : Sl) (k n : Int) (i : Nat) (y : Sl × Bool × Int × Unit) (G : Heap) : Prop :=
  ∃ s, y = (s, putI k (st.wn.take i), (i : Int), ()) ∧ Em K s0 2 G s (rowsOf ctW ((outI k n (st.wn.take i)).map rwn)) ∧ s.len = (outI k n (st.wn.take i)).length ∧ ∀ j (hj : j < st.wn.length), j < i → ¬ (st.wn[j].1 = k ∧ n < st.wn[j].2)
theorem arr0 (b : Nat) : arrAt 1 2 (b, 0) 0 = some (b, 0) := rfl
theorem arr1 (b : Nat) : arrAt 1 2 (b, 0) 1 = some (b, 1) := rfl
theorem worn_step (h : RfAt H v st) {k n : Int} {H1 : Heap} (hH1 : H1.length = H.length + 1) {t : Heap} (ht : t[0]? = some (.cells (vC v) .exact)) (ht1 : t[1]? = some (.cells [.sl 3 Sl.nil, .sl 3 Sl.nil, .sl 1 Sl.nil, .sl 2 Sl.nil] .exact)) {s0 : Sl} (hs0 : ∀ a, s0.p = some a → H.length + 1 < a.1)
    {i : Nat} (hi : i < st.wn.length) {y : Sl × Bool × Int × Unit} (hI : WornI st (H ++ t) s0 k n i y G) :
    WP (ref08_State_worn.s1 k n H H1 y G) fun r => Sum.elim (fun y => WornI st (H ++ t) s0 k n (i + 1) y r.2)
      (fun x => x = .inr () ∧ (st.wn[i].1 = k ∧ n < st.wn[i].2) ∧ RRes H v r.2 v st ∧ r.2[H.length + 1]? = some (.cells (vC v) .exact)) r.1 := by
  obtain ⟨s, rfl, hE, hn, hno⟩ := hI
  have hlm : (st.wn.map rwn).length = st.wn.length := List.length_map _
  have hx : (st.wn.map rwn)[i]'(by omega) = rwn st.wn[i] := List.getElem_map _
  obtain ⟨hG, hbox⟩ := h.box t ht (fun a ha => by have := hs0 a ha; omega) hE
  have hres : G[H.length + 1]? = some (.cells [.sl 3 Sl.nil, .sl 3 Sl.nil, .sl 1 Sl.nil, .sl 2 Sl.nil] .exact) := hE.get (by rw [tl_get1]; exact ht1) fun o ho => by have := hs0 _ ho; simp only at this; omega
  have hv : rdSl 2 G H.length 3 = some v.2.2.2.1 := rdSl_of hbox rfl
  obtain ⟨b0, o0, r1, r2, _⟩ := Row.rd (cts := ctW) (rows := st.wn.map rwn) hG.wn (i := i) (by omega) (by decide)
  rw [hx] at r2
  obtain ⟨x, hxx⟩ : ∃ x, x = st.wn[i] := ⟨_, rfl⟩
  rw [← hxx] at r2 ⊢
  have r2 : rd G (.agg [.int .i64, .int .i64]) b0 o0 = (some (x.1, x.2, ()) : Option (Int × Int × Unit)) := r2
  have htk := take_snoc hi
  rw [← hxx] at htk
  have hfew := h.w.feww
  obtain ⟨u1, u2⟩ := outI_snoc (k := k) n (l := st.wn.take i) (x := x) (by rw [← htk]; exact h.w.wn.sub (List.take_sublist _ _))
  have hol := outI_len (h.w.wn.sub (List.take_sublist i st.wn)) k n
  rw [List.length_take] at hol
  have hE0 := hE.push [.cells [.int .i64 x.1, .int .i64 x.2] .exact]
  have hgl : G.length = (G ++ [Blk.cells [.int .i64 x.1, .int .i64 x.2] .exact]).length - 1 := by simp
  have t0 : (G ++ [Blk.cells [.int .i64 x.1, .int .i64 x.2] .exact])[G.length]? = some (.cells [.int .i64 x.1, .int .i64 x.2] .exact) := by rw [tl_get0]; rfl
  have hw0 : wr (G ++ [Blk.cells [.int .i64 0, .int .i64 0] .exact]) G.length 0 [.int .i64 x.1, .int .i64 x.2] = some (G ++ [Blk.cells [.int .i64 x.1, .int .i64 x.2] .exact]) := by
    rw [wr_t0, wr_c0 _ _ _ _ (by simp)]; rfl
  have hsl : ∀ o, s.p ≠ some (G.length, o) := fun o hp => by have := hE.g.lt hp; simp only at this; omega
  have hw := wrap_succ (show i < 9223372036854775807 by omega)
  unfold ref08_State_worn.s1
  refine wp_to hv (wp_t (decide_eq_true (by rw [h.wnl]; exact Int.ofNat_lt.2 hi)) ?_)
  refine wp_to hv (wp_to r1 (wp_to r2 (wp_to hw0 ?_)))
  by_cases he : x.1 = k ∧ n < x.2
  · have hbox2 : (G ++ [Blk.cells [.int .i64 x.1, .int .i64 x.2] .exact])[H.length]? = some (.cells (vC v) .exact) := by rw [List.getElem?_append_left (get_lt hbox)]; exact hbox
    have hres2 : (G ++ [Blk.cells [.int .i64 x.1, .int .i64 x.2] .exact])[H.length + 1]? = some (.cells [.sl 3 Sl.nil, .sl 3 Sl.nil, .sl 1 Sl.nil, .sl 2 Sl.nil] .exact) := by rw [List.getElem?_append_left (get_lt hres)]; exact hres
    have hr : rd (G ++ [Blk.cells [.int .i64 x.1, .int .i64 x.2] .exact]) (.agg [.sl 3, .sl 3, .sl 1, .sl 2]) H.length 0 = (some v : Option RfV) := rd_agg_of hbox2 (by simp [vC]) rfl
    have hwr : wr (G ++ [Blk.cells [.int .i64 x.1, .int .i64 x.2] .exact]) (H.length + 1) 0 [.sl 3 v.1, .sl 3 v.2.1, .sl 1 v.2.2.1, .sl 2 v.2.2.2.1] = some ((G ++ [Blk.cells [.int .i64 x.1, .int .i64 x.2] .exact]).set (H.length + 1) (.cells (vC v) .exact)) := by
      rw [wr_of hres2 (by decide) (by simp)]; rfl
    refine wp_seq (fun p => p = (.inr (), (G ++ [Blk.cells [.int .i64 x.1, .int .i64 x.2] .exact]).set (H.length + 1) (.cells (vC v) .exact))) ?_ ?_
    · refine wp_to (arr0 _) (wp_to (rdI_of t0 rfl) (wp_t (decide_eq_true he.1) (wp_to (arr1 _) (wp_to (rdI_of t0 rfl) (wp_t (decide_eq_true he.2) (wp_to hr ?_))))))
      rw [hH1]
      exact wp_to hwr (wp_some rfl)
    · rintro _ rfl
      have hkk : Keep (fun b => b = H.length + 1) (G ++ [Blk.cells [.int .i64 x.1, .int .i64 x.2] .exact]) ((G ++ [Blk.cells [.int .i64 x.1, .int .i64 x.2] .exact]).set (H.length + 1) (.cells (vC v) .exact)) := Keep.set _ _ _ rfl
      refine wp_some ⟨rfl, he, ⟨(hG.keep (Keep.app (fun _ => False) G _) fun _ _ hf => hf).keep hkk fun b hb e => ?_, ⟨?_, fun b hb _ => ?_⟩, fun b hb => .inl hb⟩, set_get (get_lt hres2)⟩
      · have := h.lt hb; omega
      · have := hE.k.len; simp only [List.length_set, List.length_append] at this ⊢; omega
      · simp only
        have hk := hE.k.len
        simp only [List.length_append] at hk
        rw [set_get' (by omega), List.getElem?_append_left (by omega), hE.k.same b (by simp only [List.length_append]; omega) fun ⟨o, ho⟩ => by have := hs0 _ ho; simp only at this; omega, List.getElem?_append_left hb]
  · refine wp_seq (fun p => p = (.inl (), G ++ [Blk.cells [.int .i64 x.1, .int .i64 x.2] .exact])) ?_ ?_
    · refine wp_to (arr0 _) (wp_to (rdI_of t0 rfl) ?_)
      refine wp_if (p := x.1 = k) rfl (fun e => ?_) (fun e => wp_some rfl)
      exact wp_to (arr1 _) (wp_to (rdI_of t0 rfl) (wp_f (decide_eq_false fun hh => he ⟨e, hh⟩) (wp_some rfl)))
    · rintro _ rfl
      have hno' : ∀ j (hj : j < st.wn.length), j < i + 1 → ¬ (st.wn[j].1 = k ∧ n < st.wn[j].2) := fun j hj hji => by
        by_cases e2 : j = i
        · subst e2; rw [← hxx]; exact he
        · exact hno j hj (by omega)
      unfold WornI
      rw [htk, u1, u2]
      generalize outI k n (st.wn.take i) = out at hE hn hol hE0 ⊢
      generalize putI k (st.wn.take i) = put at ⊢
      refine wp_seq (fun p => p.1.2.1 = (put || decide (k ≤ x.1)) ∧ Em (H ++ t) s0 2 p.2 p.1.1 (rowsOf ctW ((out ++ if put = false ∧ k ≤ x.1 then [(k, n)] else []).map rwn)) ∧ p.1.1.len = (out ++ if put = false ∧ k ≤ x.1 then [(k, n)] else []).length ∧ p.2[G.length]? = some (.cells [.int .i64 x.1, .int .i64 x.2] .exact)) ?_ ?_
      · refine wp_seq (fun p => p = ((!put && decide (k ≤ x.1), ()), G ++ [Blk.cells [.int .i64 x.1, .int .i64 x.2] .exact])) ?_ ?_
        · refine wp_c (fun e => ?_) (fun e => ?_)
          · refine wp_to (arr0 _) (wp_to (rdI_of t0 rfl) (wp_some ?_))
            rw [show (!put) = true from e]; rfl
          · exact wp_some (by rw [show (!put) = false from e]; rfl)
        · rintro _ rfl
          refine wp_if (p := put = false ∧ k ≤ x.1) (by cases put <;> simp) (fun e => ?_) (fun e => ?_)
          · refine wp_appk hE0 rfl (by decide) (by omega) fun s' G' hE' hn' hk' _ => wp_some ⟨?_, ?_, ?_, hk' _ _ t0 hsl⟩
            · rw [e.1, decide_eq_true e.2]; rfl
            · rw [if_pos e, List.map_append, rowsOf_append']; exact hE'
            · rw [if_pos e, List.length_append, ← hn]; exact hn'
          · refine wp_some ⟨?_, ?_, ?_, t0⟩
            · show put = _
              cases put with
              | true => rfl
              | false => rw [decide_eq_false (fun hh => e ⟨rfl, hh⟩)]; rfl
            · rw [if_neg e, List.append_nil]; exact hE0
            · rw [if_neg e, List.append_nil]; exact hn
      · rintro ⟨⟨s1, put1, ⟨⟩⟩, G1⟩ ⟨rfl, hE1, hn1, t1⟩
        have hE1 : Em (H ++ t) s0 2 G1 s1 (rowsOf ctW ((out ++ if put = false ∧ k ≤ x.1 then [(k, n)] else []).map rwn)) := hE1
        have hn1 : s1.len = (out ++ if put = false ∧ k ≤ x.1 then [(k, n)] else []).length := hn1
        have hl1 : s1.len ≤ out.length + 1 := by rw [hn1, List.length_append]; split <;> simp
        refine wp_to (arr0 _) (wp_to (rdI_of t1 rfl) ?_)
        refine wp_if (p := ¬ x.1 = k) (by simp) (fun e => ?_) (fun e => ?_)
        · refine wp_to (rd3_of (cts := ctW) (x := (x.1, x.2, ())) t1 rfl) ?_
          refine wp_app hE1 rfl (by decide) (by omega) fun s' G' hE' hn' => wp_some ⟨s', ?_, ?_, ?_, hno'⟩
          · simp only [hw]
          · rw [if_neg e, List.map_append, rowsOf_append']; exact hE'
          · rw [if_neg e, List.length_append, ← hn1]; exact hn'
        · have e' : x.1 = k := by simpa using e
          refine wp_some ⟨s1, ?_, ?_, ?_, hno'⟩
          · simp only [hw]
          · rw [if_pos e', List.append_nil]; exact hE1
          · rw [if_pos e', List.append_nil]; exact hn1
/-- What the count of a block becomes. -/
def wornS (wn : List (Int × Int)) (k n : Int) : List (Int × Int) := if (∃ x ∈ wn, x.1 = k ∧ n < x.2) then wn else ains wn k n
theorem rf_worn (h : RfAt H v st) {k n : Int} (hk : 0 ≤ k ∧ k ≤ 31) : WP (ref08_State_worn v k n H) fun r => ∃ wn, ((∀ x ∈ st.wn, ¬ (x.1 = k ∧ n < x.2)) → wn = ains st.wn k n) ∧ ((∃ x ∈ st.wn, x.1 = k ∧ n < x.2) → wn = st.wn) ∧ RRes H v r.2 r.1.1 ⟨st.sp, st.lv, st.bd, wn⟩ := by
  have hfew := h.w.feww
  generalize ht : [Blk.cells [.sl 3 v.1, .sl 3 v.2.1, .sl 1 v.2.2.1, .sl 2 v.2.2.2.1] .exact, .cells [.sl 3 Sl.nil, .sl 3 Sl.nil, .sl 1 Sl.nil, .sl 2 Sl.nil] .exact, .cells [] .exact] = t
  have ht0 : t[0]? = some (.cells (vC v) .exact) := by rw [← ht]; rfl
  have ht2 : t[1]? = some (.cells [.sl 3 Sl.nil, .sl 3 Sl.nil, .sl 1 Sl.nil, .sl 2 Sl.nil] .exact) := by rw [← ht]; rfl
  have ht3 : t[2]? = some (.cells [] .exact) := by rw [← ht]; rfl
  have htl : t.length = 3 := by rw [← ht]; rfl
  have hs0 : ∀ a, (⟨some (H.length + 2, 0), 0, 0⟩ : Sl).p = some a → H.length + 1 < a.1 := fun a ha => by cases ha; simp only; omega
  have h0 : Em (H ++ t) ⟨some (H.length + 2, 0), 0, 0⟩ 2 (H ++ t) ⟨some (H.length + 2, 0), 0, 0⟩ [] := Em.start ⟨rfl, rfl, fun hh => (by cases hh), fun a ha => by cases ha; exact ⟨rfl, .inr (by rw [tl_get1]; exact ht3)⟩⟩
  have done : ∀ sF GF, (∀ x ∈ st.wn, ¬ (x.1 = k ∧ n < x.2)) → Em (H ++ t) ⟨some (H.length + 2, 0), 0, 0⟩ 2 GF sF (rowsOf ctW ((ains st.wn k n).map rwn)) → sF.len = (ains st.wn k n).length →
      WP ((wr GF H.length 3 [.sl 2 sF]).bind fun (H39 : Heap) => Option.bind (α := RfV) (rd H39 (.agg [.sl 3, .sl 3, .sl 1, .sl 2]) H.length 0) fun v40 => (wr H39 (H.length + 1) 0 [.sl 3 v40.1, .sl 3 v40.2.1, .sl 1 v40.2.2.1, .sl 2 v40.2.2.2.1]).bind fun (H41 : Heap) =>
        Option.bind (α := RfV) (rd H41 (.agg [.sl 3, .sl 3, .sl 1, .sl 2]) (H.length + 1) 0) fun v42 => some ((v42, ()), H41)) fun r => ∃ wn, ((∀ x ∈ st.wn, ¬ (x.1 = k ∧ n < x.2)) → wn = ains st.wn k n) ∧ ((∃ x ∈ st.wn, x.1 = k ∧ n < x.2) → wn = st.wn) ∧ RRes H v r.2 r.1.1 ⟨st.sp, st.lv, st.bd, wn⟩ := fun sF GF hno hE hl => by
    obtain ⟨hG, hbox⟩ := h.box t ht0 (fun a ha => by have := hs0 a ha; omega) hE
    have hres : GF[H.length + 1]? = some (.cells [.sl 3 Sl.nil, .sl 3 Sl.nil, .sl 1 Sl.nil, .sl 2 Sl.nil] .exact) := hE.get (by rw [tl_get1]; exact ht2) fun o ho => by have := hs0 _ ho; simp only at this; omega
    refine wp_fin (v' := (v.1, v.2.1, v.2.2.1, sF, ())) hbox hres rfl (by omega) (by decide) rfl ?_
    refine ⟨_, fun _ => rfl, fun ⟨x, hx, hh⟩ => absurd hh (hno x hx), ?_⟩
    refine rf_done (v' := (v.1, v.2.1, v.2.2.1, sF, ())) h (by omega) (by omega) hs0 hE ⟨h.w.wn' hk n, hG.sp, hG.lv, hG.bd, Row.grown hE.g, hG.spl, hG.lvl, hG.bdl, hl⟩ (fun b hb => ?_) _ _
    rcases hb with hb | hb | hb | hb
    · exact .inl (.inl hb)
    · exact .inl (.inr (.inl hb))
    · exact .inl (.inr (.inr (.inl hb)))
    · exact .inr hb
  have hall := outI_all k n st.wn
  unfold ref08_State_worn
  simp only [List.append_assoc, List.cons_append, List.nil_append, List.length_append, List.length_cons, List.length_nil, Nat.zero_add]
  rw [ht]
  refine wp_seq _ (wp_rise st.wn.length (WornI st (H ++ t) ⟨some (H.length + 2, 0), 0, 0⟩ k n)
    (fun x G => (x = .inr () ∧ (∃ x ∈ st.wn, x.1 = k ∧ n < x.2) ∧ RRes H v G v st ∧ G[H.length + 1]? = some (.cells (vC v) .exact)) ∨ ∃ s, x = .inl (s, putI k st.wn, ()) ∧ Em (H ++ t) ⟨some (H.length + 2, 0), 0, 0⟩ 2 G s (rowsOf ctW ((outI k n st.wn).map rwn)) ∧ s.len = (outI k n st.wn).length ∧ (∀ x ∈ st.wn, ¬ (x.1 = k ∧ n < x.2))) ?_ ?_ ?_) ?_
  · intro i y G hi hI
    exact wp_mono (worn_step h (by simp) ht0 ht2 (fun a ha => by have := hs0 a ha; omega) hi hI) fun r hr => by
      obtain ⟨r, G'⟩ := r
      cases r with
      | inl y => exact hr
      | inr x => exact .inl ⟨hr.1, ⟨_, List.getElem_mem hi, hr.2.1⟩, hr.2.2⟩
  · rintro y G ⟨s, rfl, hE, hn, hno⟩
    rw [List.take_length] at hE hn ⊢
    obtain ⟨_, hbox⟩ := h.box t ht0 (fun a ha => by have := hs0 a ha; omega) hE
    have hv : rdSl 2 G H.length 3 = some v.2.2.2.1 := rdSl_of hbox rfl
    unfold ref08_State_worn.s1
    exact wp_to hv (wp_f (decide_eq_false (by rw [h.wnl]; exact Int.lt_irrefl _)) (wp_some (.inr ⟨s, rfl, hE, hn, fun x hx => by obtain ⟨j, hj, rfl⟩ := List.getElem_of_mem hx; exact hno j hj hj⟩)))
  · exact ⟨_, rfl, h0, rfl, fun j _ hj => absurd hj (Nat.not_lt_zero _)⟩
  · rintro ⟨x, G⟩ (⟨rfl, hex, hr, hbx⟩ | ⟨s, rfl, hE, hn, hno⟩)
    · have hrd : rd G (.agg [.sl 3, .sl 3, .sl 1, .sl 2]) (H.length + 1) 0 = (some v : Option RfV) := rd_agg_of hbx (by simp [vC]) rfl
      refine wp_to hrd (wp_some ⟨st.wn, fun hno => ?_, fun _ => rfl, hr⟩)
      obtain ⟨x, hx, hh⟩ := hex
      exact absurd hh (hno x hx)
    · refine wp_c (fun e => ?_) (fun e => ?_)
      · have e : putI k st.wn = false := by simpa using e
        rw [if_pos e] at hall
        have hol := outI_len h.w.wn k n
        refine wp_app hE rfl (by decide) (by omega) fun s' G' hE' hn' => done s' G' hno ?_ ?_
        · rw [← hall, List.map_append, rowsOf_append']; exact hE'
        · rw [← hall, List.length_append, ← hn]; exact hn'
      · have e : ¬ putI k st.wn = false := by simpa using e
        rw [if_neg e, List.append_nil] at hall
        rw [hall] at hE hn
        exact done s G hno hE hn
end
end Ev
