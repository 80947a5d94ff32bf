/- The plain state: records that are looked at first; what it tells of itself. -/
import Derived.Test.YtfmefnejaocopaaSRfK
import Derived.Test.YtfmefnejaocopaaSStH
set_option linter.unusedSimpArgs false
set_option linter.unusedVariables false
namespace Ev
open Go (IntKind)

theorem wp_ite {α : Type} {p : Prop} [Decidable p] {a b : Option α} {Q : α → Prop} (h : p) (k : WP a Q) : WP (if p then a else b) Q := by rw [if_pos h]; exact k
section
variable {H G K : Heap} {v v' w0 : RfV} {st st' : Sta} {x : RecT}
theorem DoM.rx (m : DoM H v st x G) : rd G (.agg [.int .i64, .int .i64, .int .i64, .int .i64, .int .i64, .int .i64]) (H.length + 1) 0 = (some x : Option RecT) := rd_agg_of m.b1 (by simp) (by obtain ⟨a, b, c, d, e, f, ⟨⟩⟩ := x; rfl)
theorem chk_nine {x : RecT} (h : chkR x = true) (k9 : x.1 = 9) : 0 ≤ x.2.2.2.2.2.1 := by
  unfold chkR at h
  simp only [k9, inAll, inB] at h
  simp at h
  omega
theorem rf_Apply (h : RfAt H v st) (x : RecT) : WP (ref08_State_Apply v x H) fun r => r.1.2.1 = (st.doS x).1 ∧ RRes H v r.2 r.1.1 (st.doS x).2 := by
  have m := rf_begin h x
  unfold ref08_State_Apply Sta.doS
  simp only [List.append_assoc, List.cons_append, List.nil_append, List.length_append, List.length_cons, List.length_nil, Nat.zero_add]
  generalize H ++ [Blk.cells [.sl 3 v.1, .sl 3 v.2.1, .sl 1 v.2.2.1, .sl 2 v.2.2.2.1] .exact, .cells [.int .i64 x.1, .int .i64 x.2.1, .int .i64 x.2.2.1, .int .i64 x.2.2.2.1, .int .i64 x.2.2.2.2.1, .int .i64 x.2.2.2.2.2.1] .exact, .cells [.sl 3 Sl.nil, .sl 3 Sl.nil, .sl 1 Sl.nil, .sl 2 Sl.nil] .exact] = G0 at m ⊢
  have hc : ref07_Check (x.1, x.2.1, x.2.2.1, x.2.2.2.1, x.2.2.2.2.1, x.2.2.2.2.2.1, ()) = some (chkR x, ()) := by
    obtain ⟨a, b, c, d, e, f, ⟨⟩⟩ := x
    exact ref07_check_eq _
  refine wp_to m.rx (wp_to hc (wp_c (fun e => ?_) (fun e => ?_)))
  · have e : ¬ chkR x = true := by simpa using e
    rw [if_neg e]
    exact wp_to m.rv (ret_state (v0 := v) m.s m.k (by omega) m.b2 rfl (fun b hb => ⟨.inl hb, by have := m.o b hb; omega⟩) fun G' hr => ⟨rfl, hr⟩)
  · have e : chkR x = true := by simpa using e
    rw [if_pos e]
    have hx : ((x.1, x.2.1, x.2.2.1, x.2.2.2.1, x.2.2.2.2.1, x.2.2.2.2.2.1, ()) : RecT) = x := by obtain ⟨a, b, c, d, e, f, ⟨⟩⟩ := x; rfl
    refine wp_to m.rv (wp_to m.rx ?_)
    rw [hx]
    refine wp_seq _ (rf_Do m.s (fun _ => chk_good e) (chk_nine e)) ?_
    rintro ⟨⟨v', e', ⟨⟩⟩, G1⟩ ⟨he, hr⟩
    have hr : RRes G0 v G1 v' (st.applyS x).2 := hr
    have he : e' = (st.applyS x).1 := he
    subst he
    refine ret_state (v0 := v) hr.s (m.k.trans hr.k) (by omega) (hr.k.get m.b2 fun hf => hf) rfl (fun b hb => ?_) fun G' hr' => ⟨rfl, hr'⟩
    rcases hr.n b hb with hh | hh
    · exact ⟨.inl hh, by have := m.o b hh; omega⟩
    · have := get_lt m.b2
      exact ⟨.inr (by omega), by omega⟩
end
section
variable {H G K : Heap} {v v' w0 : RfV} {st st' : Sta} {x : RecT} {s0 : Sl}
theorem dump_len1 (st : Sta) (id : Int) (n : Nat) : ((pgs (st.lv.take n) id).map fun y => (rc 1 id y.1 y.2 0 0)).length ≤ n := by
  rw [List.length_map, pgs_len]
  have := List.length_filter_le (fun x : Int × Int => decide (x.1 / 1024 = id)) (st.lv.take n)
  rw [List.length_take] at this
  omega
/-- The pages of one space. -/
theorem rdump_pages (h : RfAt H v st) {t : Heap} (ht : t[0]? = some (.cells (vC v) .exact)) (hs0 : ∀ a, s0.p = some a → H.length < a.1) {s : Sl} {cs : List C} (hE : Em (H ++ t) s0 6 K s cs) {H4 : Heap} {id q : Int} {b : Bool} (hb4 : K[H4.length]? = some (.cells [.int .i64 id, .int .i64 q, .bool b] .exact)) (hb5 : ∀ o, s.p ≠ some (H4.length, o))
    (hn : s.len ≤ 20000) : WP (loopW (ref08_State_Dump.s1 H H4) (s, 0, ()) K) fun r => ∃ s', r.1 = (s', ()) ∧ Em (H ++ t) s0 6 r.2 s' (cs ++ rowsOf ctR ((pgs st.lv id).map fun y => (rc 1 id y.1 y.2 0 0))) ∧ s'.len = s.len + (pgs st.lv id).length ∧ r.2[H4.length]? = some (.cells [.int .i64 id, .int .i64 q, .bool b] .exact) := by
  have hmany := h.w.many
  have hlm : (st.lv.map rlv).length = st.lv.length := List.length_map _
  refine wp_mono (wp_rise st.lv.length (fun i y G => ∃ s', y = (s', (i : Int), ()) ∧ Em (H ++ t) s0 6 G s' (cs ++ rowsOf ctR ((pgs (st.lv.take i) id).map fun y => (rc 1 id y.1 y.2 0 0))) ∧ s'.len = s.len + (pgs (st.lv.take i) id).length ∧ G[H4.length]? = some (.cells [.int .i64 id, .int .i64 q, .bool b] .exact) ∧ ∀ o, s'.p ≠ some (H4.length, o))
    (fun y G => ∃ s', y = (s', ()) ∧ Em (H ++ t) s0 6 G s' (cs ++ rowsOf ctR ((pgs st.lv id).map fun y => (rc 1 id y.1 y.2 0 0))) ∧ s'.len = s.len + (pgs st.lv id).length ∧ G[H4.length]? = some (.cells [.int .i64 id, .int .i64 q, .bool b] .exact)) ?_ ?_ ?_) (fun r hr => hr)
  · rintro i y G hi ⟨s, rfl, hE, hn, hb, hso⟩
    obtain ⟨hG, hbox⟩ := h.box t ht hs0 hE
    have hv : rdSl 3 G H.length 1 = some v.2.1 := rdSl_of hbox rfl
    have hx : (st.lv.map rlv)[i]'(by omega) = rlv st.lv[i] := List.getElem_map _
    obtain ⟨b0, o0, r1, r2, _⟩ := Row.rd (cts := ctL) (rows := st.lv.map rlv) hG.lv (i := i) (by omega) (by decide)
    rw [hx] at r2
    have hdl := dump_len1 st id i
    rw [List.length_map] at hdl
    rw [pgs_take st.lv id hi]
    generalize st.lv[i] = y at r2 ⊢
    have hw := wrap_succ (show i < 9223372036854775807 by omega)
    have hb' : (G ++ [Blk.cells [.int .i64 (y.1 / 1024), .int .i64 (y.1 % 1024), .int .i64 y.2] .exact])[H4.length]? = some (.cells [.int .i64 id, .int .i64 q, .bool b] .exact) := by rw [List.getElem?_append_left (get_lt hb)]; exact hb
    have t0 : (G ++ [Blk.cells [.int .i64 (y.1 / 1024), .int .i64 (y.1 % 1024), .int .i64 y.2] .exact])[G.length]? = some (.cells [.int .i64 (y.1 / 1024), .int .i64 (y.1 % 1024), .int .i64 y.2] .exact) := by rw [tl_get0]; rfl
    unfold ref08_State_Dump.s1
    refine wp_to hv (wp_t (decide_eq_true (by rw [h.lvl]; exact Int.ofNat_lt.2 hi)) (wp_to hv (wp_to r1 (wp_to r2 (wp_tmp (wp_to (rdI_of t0 rfl) (wp_to (rdI_of hb' rfl) (wp_if (p := y.1 / 1024 = id) rfl (fun e => ?_) (fun e => ?_)))))))))
    · refine wp_to (rdI_of hb' rfl) (wp_to (rdI_of t0 rfl) (wp_to (rdI_of t0 rfl) ?_))
      refine wp_appk (hE.push _) rfl (by decide) (by omega) fun s' G' hE' hn' hk' hl' => wp_some ⟨s', ?_, ?_, ?_, hk' _ _ hb' hso, fun o ho => ?_⟩
      · simp only [hw]
      · rw [if_pos e, List.map_append, rowsOf_append', ← List.append_assoc]; exact hE'
      · rw [if_pos e, List.length_append, hn', hn]; rfl
      · have h1 := hl' _ _ ho
        have h2 := get_lt hb'
        simp only [List.length_append, List.length_cons, List.length_nil] at h1 h2
        omega
    · refine wp_some ⟨s, ?_, ?_, ?_, hb', hso⟩
      · simp only [hw]
      · rw [if_neg e, List.append_nil]; exact hE.push _
      · rw [if_neg e, List.append_nil]; exact hn
  · rintro y G ⟨s, rfl, hE, hn, hb, hso⟩
    rw [List.take_length] at hE hn
    obtain ⟨hG, hbox⟩ := h.box t ht hs0 hE
    have hv : rdSl 3 G H.length 1 = some v.2.1 := rdSl_of hbox rfl
    unfold ref08_State_Dump.s1
    exact wp_to hv (wp_f (decide_eq_false (by rw [h.lvl]; exact Int.lt_irrefl _)) (wp_some ⟨s, rfl, hE, hn, hb⟩))
  · exact ⟨s, rfl, by simpa [pgs, rowsOf] using hE, by simp [pgs], hb4, hb5⟩
theorem rdump_space (h : RfAt H v st) {t : Heap} (ht : t[0]? = some (.cells (vC v) .exact)) (hs0 : ∀ a, s0.p = some a → H.length < a.1) {s : Sl} {cs : List C} (hE : Em (H ++ t) s0 6 K s cs) (hn : s.len ≤ 20000 - 1100) {i : Nat} (hi : i < st.sp.length) :
    WP (ref08_State_Dump.s2 H (s, (i : Int), ()) K) fun r => Sum.elim (fun y => ∃ s', y = (s', ((i + 1 : Nat) : Int), ()) ∧ Em (H ++ t) s0 6 r.2 s' (cs ++ rowsOf ctR (dumpS st.lv st.sp[i])) ∧ s'.len = s.len + (dumpS st.lv st.sp[i]).length) (fun _ => False) r.1 := by
  obtain ⟨hG, hbox⟩ := h.box t ht hs0 hE
  have hlm : (st.sp.map rsp).length = st.sp.length := List.length_map _
  have hx : (st.sp.map rsp)[i]'(by omega) = rsp st.sp[i] := List.getElem_map _
  have hv : rdSl 3 K H.length 0 = some v.1 := rdSl_of hbox rfl
  obtain ⟨b0, o0, r1, r2, _⟩ := Row.rd (cts := ctP) (rows := st.sp.map rsp) hG.sp (i := i) (by omega) (by decide)
  rw [hx] at r2
  generalize st.sp[i] = y at r2 ⊢
  obtain ⟨id, q, b⟩ := y
  have r2 : rd K (.agg [.int .i64, .int .i64, .bool]) b0 o0 = (some (id, q, b, ()) : Option (Int × Int × Bool × Unit)) := r2
  have hfew := h.w.few
  have hpl := h.w.pgl id
  have hw := wrap_succ (show i < 9223372036854775807 by omega)
  have hsl : ∀ o, s.p ≠ some (K.length, o) := fun o hp => by have := hE.g.lt hp; simp only at this; omega
  have hds : (dumpS st.lv (id, q, b)) = [rc 4 id 0 0 0 q] ++ (pgs st.lv id).map (fun y => (rc 1 id y.1 y.2 0 0)) ++ (if b = true then [rc 7 id 0 0 0 0] else []) := by unfold dumpS; simp
  have t0 : (K ++ [Blk.cells [.int .i64 id, .int .i64 q, .bool b] .exact])[K.length]? = some (.cells [.int .i64 id, .int .i64 q, .bool b] .exact) := by rw [tl_get0]; rfl
  unfold ref08_State_Dump.s2
  refine wp_to hv (wp_t (decide_eq_true (by rw [h.spl]; exact Int.ofNat_lt.2 hi)) (wp_to hv (wp_to r1 (wp_to r2 (wp_tmpB (wp_to (rdI_of t0 rfl) (wp_to (rdI_of t0 rfl) ?_)))))))
  refine wp_appk (hE.push _) rfl (by decide) (by omega) fun s1 G1 hE1 hn1 hk1 hl1 => ?_
  have t1 := hk1 _ _ t0 hsl
  refine wp_seq _ (rdump_pages h ht hs0 hE1 t1 (fun o ho => by have h1 := hl1 _ _ ho; simp only [List.length_append, List.length_cons, List.length_nil] at h1; omega) (by omega)) ?_
  rintro ⟨⟨s2, ⟨⟩⟩, G2⟩ ⟨s', hs, hE2, hn2, t2⟩
  cases hs
  refine wp_to (rdB_of t2 rfl) ?_
  have hE2 : Em (H ++ t) s0 6 G2 s2 (cs ++ Tup.mk ctR (rc 4 id 0 0 0 q) ++ rowsOf ctR ((pgs st.lv id).map fun y => (rc 1 id y.1 y.2 0 0))) := hE2
  have hn2 : s2.len = s1.len + (pgs st.lv id).length := hn2
  rw [hds]
  cases b with
  | true =>
    refine wp_t rfl (wp_to (rdI_of t2 rfl) ?_)
    refine wp_app hE2 rfl (by decide) (by omega) fun s3 G3 hE3 hn3 => wp_some ⟨s3, ?_, ?_, ?_⟩
    · simp only [hw]
    · rw [rowsOf_append', rowsOf_append', ← List.append_assoc, ← List.append_assoc]; exact hE3
    · simp only [List.length_append, List.length_map, List.length_cons, List.length_nil, if_true]; omega
  | false =>
    refine wp_f rfl (wp_some ⟨s2, ?_, ?_, ?_⟩)
    · simp only [hw]
    · rw [if_neg (by decide), List.append_nil, rowsOf_append', ← List.append_assoc]; exact hE2
    · rw [if_neg (by decide), List.append_nil]
      simp only [List.length_append, List.length_map, List.length_cons, List.length_nil]; omega
theorem sumS_le (lv : List (Int × Int)) (w : SaW st) (i : Nat) : ((st.sp.take i).map (dumpS st.lv)).flatten.length ≤ 15450 := by
  rw [List.length_flatten, List.map_map]
  have := one_more (l := (st.sp.map (List.length ∘ dumpS st.lv))) (i := i) (fun x hx => by
    obtain ⟨y, hy, rfl⟩ := List.mem_map.1 hx
    exact dumpS_len w y) (by rw [List.length_map]; exact w.few)
  rwa [← List.map_take] at this
theorem flat_snoc {α β : Type} (f : α → List β) (l : List α) (x : α) : ((l ++ [x]).map f).flatten = (l.map f).flatten ++ f x := by simp
theorem rf_dump (h : RfAt H v st) : WP (ref08_State_Dump v H) fun r => ∃ s, r.1 = (s, ()) ∧ Row r.2 6 s (rowsOf ctR (dumpL st)) ∧ s.len = (dumpL st).length ∧ Keep (fun _ => False) H r.2 := by
  have hfew := h.w.few
  have hfb := h.w.fewb
  have hfw := h.w.feww
  generalize ht : [Blk.cells [.sl 3 v.1, .sl 3 v.2.1, .sl 1 v.2.2.1, .sl 2 v.2.2.2.1] .exact, .cells [] .exact] = t
  have ht0 : t[0]? = some (.cells (vC v) .exact) := by rw [← ht]; rfl
  have ht3 : t[1]? = some (.cells [] .exact) := by rw [← ht]; rfl
  have htl : t.length = 2 := by rw [← ht]; rfl
  have hs0 : ∀ a, (⟨some (H.length + 1, 0), 0, 0⟩ : Sl).p = some a → H.length < a.1 := fun a ha => by cases ha; simp only; omega
  have h0 : Em (H ++ t) ⟨some (H.length + 1, 0), 0, 0⟩ 6 (H ++ t) ⟨some (H.length + 1, 0), 0, 0⟩ [] := Em.start ⟨rfl, rfl, fun hh => (by cases hh), fun a ha => by cases ha; exact ⟨rfl, .inr (by rw [tl_get1]; exact ht3)⟩⟩
  unfold ref08_State_Dump
  simp only [List.append_assoc, List.cons_append, List.nil_append, List.length_append, List.length_cons, List.length_nil, Nat.zero_add]
  rw [ht]
  refine wp_seq _ (wp_rise st.sp.length (fun i y G => ∃ s, y = (s, (i : Int), ()) ∧ Em (H ++ t) ⟨some (H.length + 1, 0), 0, 0⟩ 6 G s (rowsOf ctR ((st.sp.take i).map (dumpS st.lv)).flatten) ∧ s.len = ((st.sp.take i).map (dumpS st.lv)).flatten.length)
    (fun y G => ∃ s, y = (s, ()) ∧ Em (H ++ t) ⟨some (H.length + 1, 0), 0, 0⟩ 6 G s (rowsOf ctR (st.sp.map (dumpS st.lv)).flatten) ∧ s.len = (st.sp.map (dumpS st.lv)).flatten.length) ?_ ?_ ?_) ?_
  · rintro i y G hi ⟨s, rfl, hE, hn⟩
    have := sumS_le st.lv h.w i
    refine wp_mono (rdump_space h ht0 hs0 hE (by omega) hi) fun r hr => ?_
    obtain ⟨r, G'⟩ := r
    cases r with
    | inl y =>
      obtain ⟨s', rfl, e1, e2⟩ := hr
      refine ⟨s', rfl, ?_, ?_⟩
      · rw [take_snoc hi, flat_snoc, rowsOf_append']; exact e1
      · rw [take_snoc hi, flat_snoc, List.length_append, e2, hn]
    | inr x => exact hr.elim
  · rintro y G ⟨s, rfl, hE, hn⟩
    rw [List.take_length] at hE hn
    obtain ⟨_, hbox⟩ := h.box t ht0 hs0 hE
    have hv : rdSl 3 G H.length 0 = some v.1 := rdSl_of hbox rfl
    unfold ref08_State_Dump.s2
    exact wp_to hv (wp_f (decide_eq_false (by rw [h.spl]; exact Int.lt_irrefl _)) (wp_some ⟨s, rfl, hE, hn⟩))
  · exact ⟨_, rfl, h0, rfl⟩
  rintro ⟨⟨s1, ⟨⟩⟩, G1⟩ ⟨s', hs, hE1, hn1⟩
  cases hs
  have hl1 := sumS_le st.lv h.w st.sp.length
  rw [List.take_length] at hl1
  obtain ⟨A, hA⟩ : ∃ A, A = (st.sp.map (dumpS st.lv)).flatten := ⟨_, rfl⟩
  rw [← hA] at hE1 hn1 hl1
  refine wp_seq _ (wp_rise st.bd.length (fun i y G => ∃ s, y = (s, (i : Int), ()) ∧ Em (H ++ t) ⟨some (H.length + 1, 0), 0, 0⟩ 6 G s (rowsOf ctR (A ++ (st.bd.take i).map fun y => (rc 8 0 0 y.1 0 0))) ∧ s.len = A.length + i)
    (fun y G => ∃ s, y = (s, ()) ∧ Em (H ++ t) ⟨some (H.length + 1, 0), 0, 0⟩ 6 G s (rowsOf ctR (A ++ st.bd.map fun y => (rc 8 0 0 y.1 0 0))) ∧ s.len = A.length + st.bd.length) ?_ ?_ ?_) ?_
  · rintro i y G hi ⟨s, rfl, hE, hn⟩
    obtain ⟨hG, hbox⟩ := h.box t ht0 hs0 hE
    have hv : rdSl 1 G H.length 2 = some v.2.2.1 := rdSl_of hbox rfl
    have hll : (st.bd.map Prod.fst).length = st.bd.length := List.length_map _
    have hx : (st.bd.map Prod.fst)[i]'(by omega) = st.bd[i].1 := List.getElem_map _
    obtain ⟨b0, o0, _, r1, r2⟩ := hG.bd.int (i := i) (by omega)
    rw [hx] at r2
    have hw := wrap_succ (show i < 9223372036854775807 by omega)
    unfold ref08_State_Dump.s3
    refine wp_to hv (wp_t (decide_eq_true (by rw [h.bdl]; exact Int.ofNat_lt.2 hi)) (wp_to hv (wp_to r1 (wp_to r2 ?_))))
    refine wp_app hE rfl (by decide) (by omega) fun s' G' hE' hn' => wp_some ⟨s', ?_, ?_, ?_⟩
    · simp only [hw]
    · rw [take_snoc hi, List.map_append, ← List.append_assoc, rowsOf_append']; exact hE'
    · omega
  · rintro y G ⟨s, rfl, hE, hn⟩
    rw [List.take_length] at hE
    obtain ⟨_, hbox⟩ := h.box t ht0 hs0 hE
    have hv : rdSl 1 G H.length 2 = some v.2.2.1 := rdSl_of hbox rfl
    unfold ref08_State_Dump.s3
    exact wp_to hv (wp_f (decide_eq_false (by rw [h.bdl]; exact Int.lt_irrefl _)) (wp_some ⟨s, rfl, hE, hn⟩))
  · exact ⟨s1, rfl, by simpa using hE1, by simpa using hn1⟩
  rintro ⟨⟨s2, ⟨⟩⟩, G2⟩ ⟨s', hs, hE2, hn2⟩
  cases hs
  refine wp_seq _ (wp_rise st.wn.length (fun i y G => ∃ s, y = (s, (i : Int), ()) ∧ Em (H ++ t) ⟨some (H.length + 1, 0), 0, 0⟩ 6 G s (rowsOf ctR (A ++ (st.bd.map fun y => (rc 8 0 0 y.1 0 0)) ++ (st.wn.take i).map fun y => (rc 9 0 0 y.1 0 y.2))) ∧ s.len = A.length + st.bd.length + i)
    (fun y G => ∃ s, y = (s, ()) ∧ Em (H ++ t) ⟨some (H.length + 1, 0), 0, 0⟩ 6 G s (rowsOf ctR (A ++ (st.bd.map fun y => (rc 8 0 0 y.1 0 0)) ++ st.wn.map fun y => (rc 9 0 0 y.1 0 y.2))) ∧ s.len = A.length + st.bd.length + st.wn.length) ?_ ?_ ?_) ?_
  · rintro i y G hi ⟨s, rfl, hE, hn⟩
    obtain ⟨hG, hbox⟩ := h.box t ht0 hs0 hE
    have hv : rdSl 2 G H.length 3 = some v.2.2.2.1 := rdSl_of hbox rfl
    have hlm : (st.wn.map rwn).length = st.wn.length := List.length_map _
    have hx : (st.wn.map rwn)[i]'(by omega) = rwn st.wn[i] := List.getElem_map _
    obtain ⟨b0, o0, r1, r2⟩ := row_int (cts := ctW) (rows := st.wn.map rwn) hG.wn (i := i) (by omega) (by decide) (j := 0) (n := st.wn[i].1) (by decide) (by rw [hx]; rfl)
    obtain ⟨b1, o1, r3, r4⟩ := row_int (cts := ctW) (rows := st.wn.map rwn) hG.wn (i := i) (by omega) (by decide) (j := 1) (n := st.wn[i].2) (by decide) (by rw [hx]; rfl)
    rw [r1] at r3
    cases r3
    have hw := wrap_succ (show i < 9223372036854775807 by omega)
    have a0 : arrAt 1 2 (b0, o0) 0 = some (b0, o0 + 0) := rfl
    have a1 : arrAt 1 2 (b0, o0) 1 = some (b0, o0 + 1) := rfl
    unfold ref08_State_Dump.s4
    refine wp_to hv (wp_t (decide_eq_true (by rw [h.wnl]; exact Int.ofNat_lt.2 hi)) (wp_to hv (wp_to r1 (wp_to a0 (wp_to r2 (wp_to hv (wp_to r1 (wp_to a1 (wp_to r4 ?_)))))))))
    refine wp_app hE rfl (by decide) (by omega) fun s' G' hE' hn' => wp_some ⟨s', ?_, ?_, ?_⟩
    · simp only [hw]
    · rw [take_snoc hi, List.map_append, ← List.append_assoc, rowsOf_append']; exact hE'
    · omega
  · rintro y G ⟨s, rfl, hE, hn⟩
    rw [List.take_length] at hE
    obtain ⟨_, hbox⟩ := h.box t ht0 hs0 hE
    have hv : rdSl 2 G H.length 3 = some v.2.2.2.1 := rdSl_of hbox rfl
    unfold ref08_State_Dump.s4
    exact wp_to hv (wp_f (decide_eq_false (by rw [h.wnl]; exact Int.lt_irrefl _)) (wp_some ⟨s, rfl, hE, hn⟩))
  · exact ⟨s2, rfl, by simpa using hE2, by simpa using hn2⟩
  rintro ⟨⟨s3, ⟨⟩⟩, G3⟩ ⟨s', hs, hE3, hn3⟩
  cases hs
  refine wp_some ⟨s3, rfl, ?_, ?_, ⟨?_, fun b hb _ => ?_⟩⟩
  · unfold dumpL
    rw [← hA]
    exact Row.grown hE3.g
  · unfold dumpL
    rw [← hA, List.length_append, List.length_append, List.length_map, List.length_map]
    exact hn3
  · have := hE3.k.len
    simp only [List.length_append] at this
    simp only; omega
  · simp only
    rw [hE3.k.same b (by simp only [List.length_append]; omega) fun ⟨o, ho⟩ => by have := hs0 _ ho; simp only at this; omega, List.getElem?_append_left hb]
end
end Ev
