/- The plain state: spaces made. -/
import Derived.Test.YtfmefnejaocopaaSRfE
import Derived.Test.YtfmefnejaocopaaWp
set_option linter.unusedSimpArgs false
set_option linter.unusedVariables false
namespace Ev
open Go (IntKind)

section
variable {H G : Heap} {v v' : RfV} {st st' : Sta}
/-- The end of a method: one slice is put into the box of the state, and that is told. -/
theorem wp_fin {b1 b2 j : Nat} {c : C} {cs : List C} (h1 : G[b1]? = some (.cells (vC v) .exact)) (h2 : G[b2]? = some (.cells cs .exact)) (hl : cs.length = 4) (hne : b1 ≠ b2) (hj : j < 4) (hc : (vC v).set j c = vC v') {Q : (RfV × Unit) × Heap → Prop}
    (k : Q ((v', ()), (G.set b1 (.cells (vC v') .exact)).set b2 (.cells (vC v') .exact))) :
    WP ((wr G b1 j [c]).bind fun (H39 : Heap) => Option.bind (α := RfV) (rd H39 (.agg [.sl 3, .sl 3, .sl 1, .sl 2]) b1 0) fun v40 => (wr H39 b2 0 [.sl 3 v40.1, .sl 3 v40.2.1, .sl 1 v40.2.2.1, .sl 2 v40.2.2.2.1]).bind fun (H41 : Heap) =>
        Option.bind (α := RfV) (rd H41 (.agg [.sl 3, .sl 3, .sl 1, .sl 2]) b2 0) fun v42 => some ((v42, ()), H41)) Q := by
  obtain ⟨f1, f2, f3⟩ := fin4 (G := G) (get_lt h1) h2 hl hne v'
  have hw : wr G b1 j [c] = some (G.set b1 (.cells (vC v') .exact)) := by rw [wr1_of h1 (by decide) (by simp [vC]; omega), hc]
  exact wp_to hw (wp_to f1 (wp_to f2 (wp_to f3 (wp_some k))))
theorem rd3_of {cts : List CT} {b : Nat} {x : Tup cts} (h : G[b]? = some (.cells (Tup.mk cts x) .exact)) (hl : (Tup.mk cts x).length = cts.length) : rd G (.agg cts) b 0 = some x :=
  rd_agg_of h (by omega) (by rw [List.drop_zero, ← hl, List.take_length]; exact tup_un_of _ _)
theorem made_step (h : RfAt H v st) {id q : Int} {b : Bool} {H1 : Heap} (hH1 : H1.length = H.length + 1) {t : Heap} (ht : t[0]? = some (.cells (vC v) .exact)) (ht1 : t[1]? = some (.cells [.int .i64 id, .int .i64 q, .bool b] .exact)) {s0 : Sl} (hs0 : ∀ a, s0.p = some a → H.length + 1 < a.1)
    {i : Nat} (hi : i < st.sp.length) {s : Sl} (hE : Em (H ++ t) s0 3 G s (rowsOf ctP ((outS id (q, b) (st.sp.take i)).map rsp))) (hn : s.len = (outS id (q, b) (st.sp.take i)).length) :
    WP (ref08_State_made.s1 H H1 (s, putS id (st.sp.take i), (i : Int), ()) G) fun r => Sum.elim (fun y => ∃ s', y = (s', putS id (st.sp.take (i + 1)), ((i + 1 : Nat) : Int), ()) ∧
      Em (H ++ t) s0 3 r.2 s' (rowsOf ctP ((outS id (q, b) (st.sp.take (i + 1))).map rsp)) ∧ s'.len = (outS id (q, b) (st.sp.take (i + 1))).length) (fun _ => False) r.1 := by
  have see : ∀ {G : Heap} {s : Sl} {cs : List C}, Em (H ++ t) s0 3 G s cs → rdSl 3 G H.length 0 = some v.1 ∧ (∃ b0 o0, Sl.at 3 v.1 (i : Int) = some (b0, o0) ∧ rdI .i64 G b0 o0 = some st.sp[i].1 ∧ rd G (.agg ctP) b0 o0 = some (rsp st.sp[i])) ∧ rd G (.agg ctP) (H.length + 1) 0 = some (id, q, b, ()) ∧ rdI .i64 G (H.length + 1) 0 = some id := fun {G s cs} hE => by
    obtain ⟨hG, hbox⟩ := h.box t ht (fun a ha => by have := hs0 a ha; omega) hE
    have hleaf : G[H.length + 1]? = some (.cells [.int .i64 id, .int .i64 q, .bool b] .exact) := hE.get (by rw [tl_get1]; exact ht1) fun o ho => by have := hs0 _ ho; simp only at this; omega
    have hlm : (st.sp.map rsp).length = st.sp.length := List.length_map _
    have hx : (st.sp.map rsp)[i]'(by omega) = rsp st.sp[i] := List.getElem_map _
    obtain ⟨b0, o0, r1, r2, _⟩ := Row.rd (cts := ctP) (rows := st.sp.map rsp) hG.sp (i := i) (by omega) (by decide)
    obtain ⟨b1, o1, r3, r4⟩ := row_int (cts := ctP) (rows := st.sp.map rsp) hG.sp (i := i) (by omega) (by decide) (j := 0) (n := st.sp[i].1) (by decide) (by rw [hx]; rfl)
    rw [r1] at r3
    cases r3
    rw [hx] at r2
    exact ⟨rdSl_of hbox rfl, ⟨b0, o0, r1, r4, r2⟩, rd3_of (cts := ctP) (x := (id, q, b, ())) hleaf rfl, rdI_of hleaf rfl⟩
  obtain ⟨hv, ⟨b0, o0, r1, r2, r3⟩, l1, l2⟩ := see hE
  have hsee : ∀ {G : Heap} {s : Sl} {cs : List C}, Em (H ++ t) s0 3 G s cs → rdSl 3 G H.length 0 = some v.1 ∧ rdI .i64 G b0 o0 = some st.sp[i].1 ∧ rd G (.agg ctP) b0 o0 = some (rsp st.sp[i]) ∧ rdI .i64 G (H.length + 1) 0 = some id := fun hE' => by
    obtain ⟨q1, ⟨b2, o2, q2, q3, q4⟩, _, q5⟩ := see hE'
    rw [r1] at q2
    cases q2
    exact ⟨q1, q3, q4, q5⟩
  clear see
  obtain ⟨x, hxx⟩ : ∃ x, x = st.sp[i] := ⟨_, rfl⟩
  rw [← hxx] at r2
  simp only [← hxx] at hsee
  have htk := take_snoc hi
  rw [← hxx] at htk
  have hfew := h.w.few
  obtain ⟨u1, u2⟩ := outS_snoc (k := id) (q, b) (l := st.sp.take i) (x := x) (by rw [← htk]; exact h.w.sp.sub (List.take_sublist _ _))
  have hol := outS_len (h.w.sp.sub (List.take_sublist i st.sp)) id (q, b)
  rw [List.length_take] at hol
  rw [htk, u1, u2]
  generalize outS id (q, b) (st.sp.take i) = out at hE hn hol ⊢
  generalize putS id (st.sp.take i) = put at ⊢
  have hw := wrap_succ (show i < 9223372036854775807 by omega)
  unfold ref08_State_made.s1
  refine wp_to hv (wp_t (decide_eq_true (by rw [h.spl]; exact Int.ofNat_lt.2 hi)) ?_)
  refine wp_seq (fun p => p.1.2.1 = (put || decide (id < x.1)) ∧ Em (H ++ t) s0 3 p.2 p.1.1 (rowsOf ctP ((out ++ if put = false ∧ id < x.1 then [(id, q, b)] else []).map rsp)) ∧ p.1.1.len = (out ++ if put = false ∧ id < x.1 then [(id, q, b)] else []).length) ?_ ?_
  · refine wp_seq (fun p => p = ((!put && decide (id < x.1), ()), G)) ?_ ?_
    · refine wp_c (fun e => ?_) (fun e => ?_)
      · rw [hH1]
        refine wp_to hv (wp_to r1 (wp_to r2 (wp_to l2 (wp_some ?_))))
        rw [show (!put) = true from e]; rfl
      · exact wp_some (by rw [show (!put) = false from e]; rfl)
    · rintro _ rfl
      refine wp_if (p := put = false ∧ id < x.1) (by cases put <;> simp) (fun e => ?_) (fun e => ?_)
      · rw [hH1]
        refine wp_to l1 ?_
        refine wp_app hE rfl (by decide) (by omega) fun s' G' hE' hn' => wp_some ⟨?_, ?_, ?_⟩
        · rw [e.1, decide_eq_true e.2]; rfl
        · rw [if_pos e, List.map_append, rowsOf_append']; exact hE'
        · rw [if_pos e, List.length_append, ← hn]; exact hn'
      · refine wp_some ⟨?_, ?_, ?_⟩
        · show put = _
          cases put with
          | true => rfl
          | false => rw [decide_eq_false (fun hh => e ⟨rfl, hh⟩)]; rfl
        · rw [if_neg e, List.append_nil]; exact hE
        · rw [if_neg e, List.append_nil]; exact hn
  · rintro ⟨⟨s1, put1, ⟨⟩⟩, G1⟩ ⟨rfl, hE1, hn1⟩
    have hE1 : Em (H ++ t) s0 3 G1 s1 (rowsOf ctP ((out ++ if put = false ∧ id < x.1 then [(id, q, b)] else []).map rsp)) := hE1
    have hn1 : s1.len = (out ++ if put = false ∧ id < x.1 then [(id, q, b)] else []).length := hn1
    obtain ⟨q1, q2, q3, q4⟩ := hsee hE1
    have hl1 : s1.len ≤ out.length + 1 := by rw [hn1, List.length_append]; split <;> simp
    rw [hH1]
    refine wp_to q1 (wp_to r1 (wp_to q2 (wp_to q4 ?_)))
    refine wp_if (p := ¬ x.1 = id) (by simp) (fun e => ?_) (fun e => ?_)
    · refine wp_to q1 (wp_to r1 (wp_to q3 ?_))
      refine wp_app hE1 rfl (by decide) (by omega) fun s' G' hE' hn' => wp_some ⟨s', ?_, ?_, ?_⟩
      · simp only [hw]
      · rw [if_neg e, List.map_append, rowsOf_append']; exact hE'
      · rw [if_neg e, List.length_append, ← hn1]; exact hn'
    · have e' : x.1 = id := by simpa using e
      refine wp_some ⟨s1, ?_, ?_, ?_⟩
      · simp only [hw]
      · rw [if_pos e', List.append_nil]; exact hE1
      · rw [if_pos e', List.append_nil]; exact hn1
theorem SaW.spi (w : SaW st) {id : Int} (hid : 1 ≤ id ∧ id ≤ 15) {q : Int} (hq : q ≤ 1024) (b : Bool) : SaW ⟨ains st.sp id (q, b), st.lv, st.bd, st.wn⟩ :=
  ⟨w.sp.ins _ _, w.lv, w.bd, w.wn, fun y hy => by
    show (afind (ains st.sp id (q, b)) (y.1 / 1024)).isSome = true
    rw [afind_ins w.sp]
    split
    · rfl
    · exact w.own y hy,
   fun y hy => (ains_mem hy).elim (fun e => by rw [e]; exact ⟨hid.1, hid.2, hq⟩) (w.ids y), w.bds, w.wns⟩
theorem rf_made (h : RfAt H v st) {id q : Int} (b : Bool) (hid : 1 ≤ id ∧ id ≤ 15) (hq : q ≤ 1024) : WP (ref08_State_made v (id, q, b, ()) H) fun r => RRes H v r.2 r.1.1 ⟨ains st.sp id (q, b), st.lv, st.bd, st.wn⟩ := by
  have hfew := h.w.few
  generalize ht : [Blk.cells [.sl 3 v.1, .sl 3 v.2.1, .sl 1 v.2.2.1, .sl 2 v.2.2.2.1] .exact, .cells [.int .i64 id, .int .i64 q, .bool b] .exact, .cells [.sl 3 Sl.nil, .sl 3 Sl.nil, .sl 1 Sl.nil, .sl 2 Sl.nil] .exact, .cells [] .exact] = t
  have ht0 : t[0]? = some (.cells (vC v) .exact) := by rw [← ht]; rfl
  have ht1 : t[1]? = some (.cells [.int .i64 id, .int .i64 q, .bool b] .exact) := by rw [← ht]; rfl
  have ht2 : t[2]? = some (.cells [.sl 3 Sl.nil, .sl 3 Sl.nil, .sl 1 Sl.nil, .sl 2 Sl.nil] .exact) := by rw [← ht]; rfl
  have ht3 : t[3]? = some (.cells [] .exact) := by rw [← ht]; rfl
  have htl : t.length = 4 := by rw [← ht]; rfl
  have hs0 : ∀ a, (⟨some (H.length + 3, 0), 0, 0⟩ : Sl).p = some a → H.length + 2 < a.1 := fun a ha => by cases ha; simp only; omega
  have h0 : Em (H ++ t) ⟨some (H.length + 3, 0), 0, 0⟩ 3 (H ++ t) ⟨some (H.length + 3, 0), 0, 0⟩ [] := Em.start ⟨rfl, rfl, fun hh => (by cases hh), fun a ha => by cases ha; exact ⟨rfl, .inr (by rw [tl_get1]; exact ht3)⟩⟩
  have done : ∀ sF GF, Em (H ++ t) ⟨some (H.length + 3, 0), 0, 0⟩ 3 GF sF (rowsOf ctP ((ains st.sp id (q, b)).map rsp)) → sF.len = (ains st.sp id (q, b)).length →
      WP ((wr GF H.length 0 [.sl 3 sF]).bind fun (H39 : Heap) => Option.bind (α := RfV) (rd H39 (.agg [.sl 3, .sl 3, .sl 1, .sl 2]) H.length 0) fun v40 => (wr H39 (H.length + 2) 0 [.sl 3 v40.1, .sl 3 v40.2.1, .sl 1 v40.2.2.1, .sl 2 v40.2.2.2.1]).bind fun (H41 : Heap) =>
        Option.bind (α := RfV) (rd H41 (.agg [.sl 3, .sl 3, .sl 1, .sl 2]) (H.length + 2) 0) fun v42 => some ((v42, ()), H41)) fun r => RRes H v r.2 r.1.1 ⟨ains st.sp id (q, b), st.lv, st.bd, st.wn⟩ := fun sF GF hE hl => by
    obtain ⟨hG, hbox⟩ := h.box t ht0 (fun a ha => by have := hs0 a ha; omega) hE
    have hres : GF[H.length + 2]? = some (.cells [.sl 3 Sl.nil, .sl 3 Sl.nil, .sl 1 Sl.nil, .sl 2 Sl.nil] .exact) := hE.get (by rw [tl_get1]; exact ht2) fun o ho => by have := hs0 _ ho; simp only at this; omega
    refine wp_fin (v' := (sF, v.2.1, v.2.2.1, v.2.2.2.1, ())) hbox hres rfl (by omega) (by decide) rfl ?_
    refine rf_done (v' := (sF, v.2.1, v.2.2.1, v.2.2.2.1, ())) h (by omega) (by omega) hs0 hE ⟨h.w.spi hid hq b, Row.grown hE.g, hG.lv, hG.bd, hG.wn, hl, hG.lvl, hG.bdl, hG.wnl⟩ (fun b hb => ?_) _ _
    rcases hb with hb | hb | hb | hb
    · exact .inr hb
    · exact .inl (.inr (.inl hb))
    · exact .inl (.inr (.inr (.inl hb)))
    · exact .inl (.inr (.inr (.inr hb)))
  have hall := outS_all h.w.sp id (q, b)
  unfold ref08_State_made
  simp only [List.append_assoc, List.cons_append, List.nil_append, List.length_append, List.length_cons, List.length_nil, Nat.zero_add]
  rw [ht]
  refine wp_seq _ (wp_rise st.sp.length (fun i y G => ∃ s, y = (s, putS id (st.sp.take i), (i : Int), ()) ∧ Em (H ++ t) ⟨some (H.length + 3, 0), 0, 0⟩ 3 G s (rowsOf ctP ((outS id (q, b) (st.sp.take i)).map rsp)) ∧ s.len = (outS id (q, b) (st.sp.take i)).length)
    (fun x G => ∃ s, x = (s, putS id st.sp, ()) ∧ Em (H ++ t) ⟨some (H.length + 3, 0), 0, 0⟩ 3 G s (rowsOf ctP ((outS id (q, b) st.sp).map rsp)) ∧ s.len = (outS id (q, b) st.sp).length) ?_ ?_ ?_) ?_
  · rintro i y G hi ⟨s, rfl, hE, hn⟩
    exact wp_mono (made_step h (by simp) ht0 ht1 (fun a ha => by have := hs0 a ha; omega) hi hE hn) fun r hr => by
      obtain ⟨r, G'⟩ := r
      cases r with
      | inl y => exact hr
      | inr x => exact hr.elim
  · rintro y G ⟨s, rfl, hE, hn⟩
    rw [List.take_length] at hE hn ⊢
    obtain ⟨_, hbox⟩ := h.box t ht0 (fun a ha => by have := hs0 a ha; omega) hE
    have hv : rdSl 3 G H.length 0 = some v.1 := rdSl_of hbox rfl
    unfold ref08_State_made.s1
    exact wp_to hv (wp_f (decide_eq_false (by rw [h.spl]; exact Int.lt_irrefl _)) (wp_some ⟨s, rfl, hE, hn⟩))
  · exact ⟨_, rfl, h0, rfl⟩
  · rintro ⟨⟨s, pt, ⟨⟩⟩, G⟩ ⟨s', hs, hE, hn⟩
    cases hs
    refine wp_c (fun e => ?_) (fun e => ?_)
    · have e : putS id st.sp = false := by simpa using e
      rw [if_pos e] at hall
      have hleaf : G[H.length + 1]? = some (.cells [.int .i64 id, .int .i64 q, .bool b] .exact) := hE.get (by rw [tl_get1]; exact ht1) fun o ho => by have := hs0 _ ho; simp only at this; omega
      have hol := outS_len h.w.sp id (q, b)
      have l2 : rd G (.agg ctP) (H.length + 1) 0 = some (id, q, b, ()) := rd3_of (cts := ctP) (x := (id, q, b, ())) hleaf rfl
      refine wp_to l2 ?_
      refine wp_app hE rfl (by decide) (by omega) fun s' G' hE' hn' => done s' G' ?_ ?_
      · rw [← hall, List.map_append, rowsOf_append']; exact hE'
      · rw [← hall, List.length_append, ← hn]; exact hn'
    · have e : ¬ putS id st.sp = false := by simpa using e
      rw [if_neg e, List.append_nil] at hall
      rw [hall] at hE hn
      exact done s G hE hn
end
end Ev
