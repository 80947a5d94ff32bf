/- The plain state: bad blocks. -/
import Derived.Test.YtfmefnejaocopaaSRfF
set_option linter.unusedSimpArgs false
set_option linter.unusedVariables false
namespace Ev
open Go (IntKind)

theorem intC_append (l l' : List Int) : intC (l ++ l') = intC l ++ intC l' := by simp [intC]
theorem SaW.fewb {st : Sta} (w : SaW st) : st.bd.length ≤ 32 := asc_bound (a := 0) w.bd fun x hx => by have := w.bds x hx; omega
theorem SaW.feww {st : Sta} (w : SaW st) : st.wn.length ≤ 32 := asc_bound (a := 0) w.wn fun x hx => by have := w.wns x hx; omega
section
variable {H G : Heap} {v v' : RfV} {st st' : Sta}
theorem bad_step (h : RfAt H v st) {k : Int} {t : Heap} (ht : t[0]? = some (.cells (vC v) .exact)) {s0 : Sl} (hs0 : ∀ a, s0.p = some a → H.length < a.1)
    {i : Nat} (hi : i < st.bd.length) {s : Sl} (hE : Em (H ++ t) s0 1 G s (intC ((outI k () (st.bd.take i)).map Prod.fst))) (hn : s.len = (outI k () (st.bd.take i)).length) :
    WP (ref08_State_bad.s1 k H (s, putI k (st.bd.take i), (i : Int), ()) G) fun r => Sum.elim (fun y => ∃ s', y = (s', putI k (st.bd.take (i + 1)), ((i + 1 : Nat) : Int), ()) ∧
      Em (H ++ t) s0 1 r.2 s' (intC ((outI k () (st.bd.take (i + 1))).map Prod.fst)) ∧ s'.len = (outI k () (st.bd.take (i + 1))).length) (fun _ => False) r.1 := by
  have hll : (st.bd.map Prod.fst).length = st.bd.length := List.length_map _
  have hx : (st.bd.map Prod.fst)[i]'(by omega) = st.bd[i].1 := List.getElem_map _
  have see : ∀ {G : Heap} {s : Sl} {cs : List C}, Em (H ++ t) s0 1 G s cs → rdSl 1 G H.length 2 = some v.2.2.1 ∧ (∃ b0 o0, Sl.at 1 v.2.2.1 (i : Int) = some (b0, o0) ∧ rdI .i64 G b0 o0 = some st.bd[i].1) := fun {G s cs} hE => by
    obtain ⟨hG, hbox⟩ := h.box t ht hs0 hE
    obtain ⟨b0, o0, _, r1, r2⟩ := hG.bd.int (i := i) (by omega)
    rw [hx] at r2
    exact ⟨rdSl_of hbox rfl, b0, o0 + i, r1, r2⟩
  obtain ⟨hv, b0, o0, r1, r2⟩ := see hE
  have hsee : ∀ {G : Heap} {s : Sl} {cs : List C}, Em (H ++ t) s0 1 G s cs → rdSl 1 G H.length 2 = some v.2.2.1 ∧ rdI .i64 G b0 o0 = some st.bd[i].1 := fun hE' => by
    obtain ⟨q1, b2, o2, q2, q3⟩ := see hE'
    rw [r1] at q2
    cases q2
    exact ⟨q1, q3⟩
  clear see
  obtain ⟨x, hxx⟩ : ∃ x, x = st.bd[i] := ⟨_, rfl⟩
  rw [← hxx] at r2
  simp only [← hxx] at hsee
  have htk := take_snoc hi
  rw [← hxx] at htk
  have hfew := h.w.fewb
  obtain ⟨u1, u2⟩ := outI_snoc (k := k) () (l := st.bd.take i) (x := x) (by rw [← htk]; exact h.w.bd.sub (List.take_sublist _ _))
  have hol := outI_len (h.w.bd.sub (List.take_sublist i st.bd)) k ()
  rw [List.length_take] at hol
  rw [htk, u1, u2]
  generalize outI k () (st.bd.take i) = out at hE hn hol ⊢
  generalize putI k (st.bd.take i) = put at ⊢
  have hw := wrap_succ (show i < 9223372036854775807 by omega)
  unfold ref08_State_bad.s1
  refine wp_to hv (wp_t (decide_eq_true (by rw [h.bdl]; exact Int.ofNat_lt.2 hi)) ?_)
  refine wp_seq (fun p => p.1.2.1 = (put || decide (k ≤ x.1)) ∧ Em (H ++ t) s0 1 p.2 p.1.1 (intC ((out ++ if put = false ∧ k ≤ x.1 then [(k, ())] else []).map Prod.fst)) ∧ p.1.1.len = (out ++ if put = false ∧ k ≤ x.1 then [(k, ())] else []).length) ?_ ?_
  · refine wp_seq (fun p => p = ((!put && decide (k ≤ x.1), ()), G)) ?_ ?_
    · refine wp_c (fun e => ?_) (fun e => ?_)
      · refine wp_to hv (wp_to r1 (wp_to r2 (wp_some ?_)))
        rw [show (!put) = true from e]; rfl
      · exact wp_some (by rw [show (!put) = false from e]; rfl)
    · rintro _ rfl
      refine wp_if (p := put = false ∧ k ≤ x.1) (by cases put <;> simp) (fun e => ?_) (fun e => ?_)
      · refine wp_app hE rfl (by decide) (by omega) fun s' G' hE' hn' => wp_some ⟨?_, ?_, ?_⟩
        · rw [e.1, decide_eq_true e.2]; rfl
        · rw [if_pos e, List.map_append, intC_append]; exact hE'
        · rw [if_pos e, List.length_append, ← hn]; exact hn'
      · refine wp_some ⟨?_, ?_, ?_⟩
        · show put = _
          cases put with
          | true => rfl
          | false => rw [decide_eq_false (fun hh => e ⟨rfl, hh⟩)]; rfl
        · rw [if_neg e, List.append_nil]; exact hE
        · rw [if_neg e, List.append_nil]; exact hn
  · rintro ⟨⟨s1, put1, ⟨⟩⟩, G1⟩ ⟨rfl, hE1, hn1⟩
    have hE1 : Em (H ++ t) s0 1 G1 s1 (intC ((out ++ if put = false ∧ k ≤ x.1 then [(k, ())] else []).map Prod.fst)) := hE1
    have hn1 : s1.len = (out ++ if put = false ∧ k ≤ x.1 then [(k, ())] else []).length := hn1
    obtain ⟨q1, q2⟩ := hsee hE1
    have hl1 : s1.len ≤ out.length + 1 := by rw [hn1, List.length_append]; split <;> simp
    refine wp_to q1 (wp_to r1 (wp_to q2 ?_))
    refine wp_if (p := ¬ x.1 = k) (by simp) (fun e => ?_) (fun e => ?_)
    · refine wp_to q1 (wp_to r1 (wp_to q2 ?_))
      refine wp_app hE1 rfl (by decide) (by omega) fun s' G' hE' hn' => wp_some ⟨s', ?_, ?_, ?_⟩
      · simp only [hw]
      · rw [if_neg e, List.map_append, intC_append]; exact hE'
      · rw [if_neg e, List.length_append, ← hn1]; exact hn'
    · have e' : x.1 = k := by simpa using e
      refine wp_some ⟨s1, ?_, ?_, ?_⟩
      · simp only [hw]
      · rw [if_pos e', List.append_nil]; exact hE1
      · rw [if_pos e', List.append_nil]; exact hn1
theorem rf_bad (h : RfAt H v st) {k : Int} (hk : 0 ≤ k ∧ k ≤ 31) : WP (ref08_State_bad v k H) fun r => RRes H v r.2 r.1.1 ⟨st.sp, st.lv, ains st.bd k (), st.wn⟩ := by
  have hfew := h.w.fewb
  generalize ht : [Blk.cells [.sl 3 v.1, .sl 3 v.2.1, .sl 1 v.2.2.1, .sl 2 v.2.2.2.1] .exact, .cells [.sl 3 Sl.nil, .sl 3 Sl.nil, .sl 1 Sl.nil, .sl 2 Sl.nil] .exact, .cells [] .exact] = t
  have ht0 : t[0]? = some (.cells (vC v) .exact) := by rw [← ht]; rfl
  have ht2 : t[1]? = some (.cells [.sl 3 Sl.nil, .sl 3 Sl.nil, .sl 1 Sl.nil, .sl 2 Sl.nil] .exact) := by rw [← ht]; rfl
  have ht3 : t[2]? = some (.cells [] .exact) := by rw [← ht]; rfl
  have htl : t.length = 3 := by rw [← ht]; rfl
  have hs0 : ∀ a, (⟨some (H.length + 2, 0), 0, 0⟩ : Sl).p = some a → H.length + 1 < a.1 := fun a ha => by cases ha; simp only; omega
  have h0 : Em (H ++ t) ⟨some (H.length + 2, 0), 0, 0⟩ 1 (H ++ t) ⟨some (H.length + 2, 0), 0, 0⟩ [] := Em.start ⟨rfl, rfl, fun hh => (by cases hh), fun a ha => by cases ha; exact ⟨rfl, .inr (by rw [tl_get1]; exact ht3)⟩⟩
  have done : ∀ sF GF, Em (H ++ t) ⟨some (H.length + 2, 0), 0, 0⟩ 1 GF sF (intC ((ains st.bd k ()).map Prod.fst)) → sF.len = (ains st.bd k ()).length →
      WP ((wr GF H.length 2 [.sl 1 sF]).bind fun (H39 : Heap) => Option.bind (α := RfV) (rd H39 (.agg [.sl 3, .sl 3, .sl 1, .sl 2]) H.length 0) fun v40 => (wr H39 (H.length + 1) 0 [.sl 3 v40.1, .sl 3 v40.2.1, .sl 1 v40.2.2.1, .sl 2 v40.2.2.2.1]).bind fun (H41 : Heap) =>
        Option.bind (α := RfV) (rd H41 (.agg [.sl 3, .sl 3, .sl 1, .sl 2]) (H.length + 1) 0) fun v42 => some ((v42, ()), H41)) fun r => RRes H v r.2 r.1.1 ⟨st.sp, st.lv, ains st.bd k (), st.wn⟩ := fun sF GF hE hl => by
    obtain ⟨hG, hbox⟩ := h.box t ht0 (fun a ha => by have := hs0 a ha; omega) hE
    have hres : GF[H.length + 1]? = some (.cells [.sl 3 Sl.nil, .sl 3 Sl.nil, .sl 1 Sl.nil, .sl 2 Sl.nil] .exact) := hE.get (by rw [tl_get1]; exact ht2) fun o ho => by have := hs0 _ ho; simp only at this; omega
    refine wp_fin (v' := (v.1, v.2.1, sF, v.2.2.2.1, ())) hbox hres rfl (by omega) (by decide) rfl ?_
    refine rf_done (v' := (v.1, v.2.1, sF, v.2.2.2.1, ())) h (by omega) (by omega) hs0 hE ⟨h.w.bd' hk, hG.sp, hG.lv, Row.grown hE.g, hG.wn, hG.spl, hG.lvl, hl, hG.wnl⟩ (fun b hb => ?_) _ _
    rcases hb with hb | hb | hb | hb
    · exact .inl (.inl hb)
    · exact .inl (.inr (.inl hb))
    · exact .inr hb
    · exact .inl (.inr (.inr (.inr hb)))
  have hall := outI_all k () st.bd
  unfold ref08_State_bad
  simp only [List.append_assoc, List.cons_append, List.nil_append, List.length_append, List.length_cons, List.length_nil, Nat.zero_add]
  rw [ht]
  refine wp_seq _ (wp_rise st.bd.length (fun i y G => ∃ s, y = (s, putI k (st.bd.take i), (i : Int), ()) ∧ Em (H ++ t) ⟨some (H.length + 2, 0), 0, 0⟩ 1 G s (intC ((outI k () (st.bd.take i)).map Prod.fst)) ∧ s.len = (outI k () (st.bd.take i)).length)
    (fun x G => ∃ s, x = (s, putI k st.bd, ()) ∧ Em (H ++ t) ⟨some (H.length + 2, 0), 0, 0⟩ 1 G s (intC ((outI k () st.bd).map Prod.fst)) ∧ s.len = (outI k () st.bd).length) ?_ ?_ ?_) ?_
  · rintro i y G hi ⟨s, rfl, hE, hn⟩
    exact wp_mono (bad_step h ht0 (fun a ha => by have := hs0 a ha; omega) hi hE hn) fun r hr => by
      obtain ⟨r, G'⟩ := r
      cases r with
      | inl y => exact hr
      | inr x => exact hr.elim
  · rintro y G ⟨s, rfl, hE, hn⟩
    rw [List.take_length] at hE hn ⊢
    obtain ⟨_, hbox⟩ := h.box t ht0 (fun a ha => by have := hs0 a ha; omega) hE
    have hv : rdSl 1 G H.length 2 = some v.2.2.1 := rdSl_of hbox rfl
    unfold ref08_State_bad.s1
    exact wp_to hv (wp_f (decide_eq_false (by rw [h.bdl]; exact Int.lt_irrefl _)) (wp_some ⟨s, rfl, hE, hn⟩))
  · exact ⟨_, rfl, h0, rfl⟩
  · rintro ⟨⟨s, pt, ⟨⟩⟩, G⟩ ⟨s', hs, hE, hn⟩
    cases hs
    refine wp_c (fun e => ?_) (fun e => ?_)
    · have e : putI k st.bd = false := by simpa using e
      rw [if_pos e] at hall
      have hol := outI_len h.w.bd k ()
      refine wp_app hE rfl (by decide) (by omega) fun s' G' hE' hn' => done s' G' ?_ ?_
      · rw [← hall, List.map_append, intC_append]; exact hE'
      · rw [← hall, List.length_append, ← hn]; exact hn'
    · have e : ¬ putI k st.bd = false := by simpa using e
      rw [if_neg e, List.append_nil] at hall
      rw [hall] at hE hn
      exact done s G hE hn
end
end Ev
