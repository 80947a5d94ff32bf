/- The plain state: one page's place. -/
import Derived.Test.YtfmefnejaocopaaSRfC
set_option linter.unusedSimpArgs false
set_option linter.unusedVariables false
namespace Ev
open Go (IntKind)

section
variable {H G : Heap} {v : RfV} {st : Sta}
theorem rf_get (h : RfAt H v st) (id p : Int) : ∃ G, ref08_State_Get v id p H = some (((afind (pgs st.lv id) p).getD 0, (afind (pgs st.lv id) p).isSome, ()), G) ∧ Keep (fun _ => False) H G := by
  have hk0 := Keep.app (fun _ => False) H [.cells (vC v) .exact]
  have hH := h.keep hk0 fun _ _ hf => hf
  have hb0 : (H ++ [Blk.cells (vC v) .exact])[H.length]? = some (.cells (vC v) .exact) := by rw [tl_get0]; rfl
  have hlm : (st.lv.map rlv).length = st.lv.length := List.length_map _
  have hmany := h.w.many
  obtain ⟨x, G, g1, g2, g3⟩ := loop_rise (step := ref08_State_Get.s1 id p H) st.lv.length (fun i y G => y = ((i : Int), ()) ∧ Keep (fun _ => False) (H ++ [.cells (vC v) .exact]) G ∧ ∀ j (hj : j < st.lv.length), j < i → ¬ (st.lv[j].1 / 1024 = id ∧ st.lv[j].1 % 1024 = p))
    (fun x G => Keep (fun _ => False) (H ++ [.cells (vC v) .exact]) G ∧ ((x = .inl () ∧ afind (pgs st.lv id) p = none) ∨ ∃ c, x = .inr (c, true, ()) ∧ afind (pgs st.lv id) p = some c))
    (fun i y G hi ⟨hy, hk, hj⟩ => by
      subst hy
      have hG := hH.keep hk fun _ _ hf => hf
      have hv : rdSl 3 G H.length 1 = some v.2.1 := rdSl_of (hk.get hb0 fun hf => hf) rfl
      obtain ⟨b0, o0, r1, r2, _⟩ := Row.rd (cts := ctL) (rows := st.lv.map rlv) hG.lv (i := i) (by omega) (by decide)
      have r1 : Sl.at 3 v.2.1 (i : Int) = some (b0, o0) := r1
      have hx : (st.lv.map rlv)[i]'(by omega) = rlv st.lv[i] := List.getElem_map _
      rw [hx] at r2
      have r2' : rd G (.agg [.int .i64, .int .i64, .int .i64]) b0 o0 = (some (st.lv[i].1 / 1024, st.lv[i].1 % 1024, st.lv[i].2, ()) : Option (Int × Int × Int × Unit)) := r2
      have hd : decide ((i : Int) < (v.2.1.len : Int)) = true := decide_eq_true (by rw [h.lvl]; omega)
      have hk2 := hk.trans (Keep.app (fun _ => False) G [.cells [.int .i64 (st.lv[i].1 / 1024), .int .i64 (st.lv[i].1 % 1024), .int .i64 st.lv[i].2] .exact])
      have hno : ¬ (st.lv[i].1 / 1024 = id ∧ st.lv[i].1 % 1024 = p) → ∀ j (hj : j < st.lv.length), j < i + 1 → ¬ (st.lv[j].1 / 1024 = id ∧ st.lv[j].1 % 1024 = p) := fun e j hjl hji => by
        by_cases e2 : j = i
        · subst e2; exact e
        · exact hj j hjl (by omega)
      unfold ref08_State_Get.s1
      simp only [hv, hd, cond_true, Option.bind_some, r1]
      simp only [r2', Option.bind_some, Option.map_some, cond_true, cond_false, List.append_assoc, List.cons_append, List.nil_append, List.length_append, List.length_cons, List.length_nil, Nat.zero_add, rd_t0, rd_t1, rdI_t0, rdI_t1, rdB_t0, rdB_t1, rdM_t0, rdM_t1, rd_c1, rdI_c1, rdB_c1, rdM_c1, rdI_c0, rdB_c0, rdM_c0, wr_t0, wr_t1, wr_c0, wr_c1, setL, List.set, List.getElem?_cons_zero, List.getElem?_cons_succ, un_i, un_b, un_m, un_s, un_sl1, un_sl2, un_sl3, Nat.le_refl, rd_iiib, rd_iiiiii, rd_ibm, rd_iii, rd_iib, rd_ii, rd_3312, rd_iiii, rd_si, rd_33121, rd_33121i, slRow_t0, slRow_t1, sl_c0, sl_c1, wrap_succ (show i < 9223372036854775807 by omega)]
      by_cases e1 : st.lv[i].1 / 1024 = id
      · by_cases e2 : st.lv[i].1 % 1024 = p
        · right
          simp only [decide_eq_true e1, decide_eq_true e2, cond_true]
          refine ⟨_, _, rfl, hk2, .inr ⟨st.lv[i].2, rfl, ?_⟩⟩
          have hf := h.w.lv.find (k := st.lv[i].1) (v := st.lv[i].2) (List.getElem_mem hi)
          rw [pgs_find h.w.lv, if_pos (by omega), show id * 1024 + p = st.lv[i].1 by omega]
          exact hf
        · left
          simp only [decide_eq_true e1, decide_eq_false e2, cond_true, cond_false]
          exact ⟨_, _, rfl, rfl, hk2, hno fun hh => e2 hh.2⟩
      · left
        simp only [decide_eq_false e1, cond_false]
        exact ⟨_, _, rfl, rfl, hk2, hno fun hh => e1 hh.1⟩)
    (fun y G ⟨hy, hk, hj⟩ => by
      subst hy
      have hv : rdSl 3 G H.length 1 = some v.2.1 := rdSl_of (hk.get hb0 fun hf => hf) rfl
      refine ⟨_, _, ?_, hk, .inl ⟨rfl, afind_none fun y hy e => ?_⟩⟩
      · unfold ref08_State_Get.s1
        simp only [hv, Option.bind_some, decide_eq_false (show ¬ (st.lv.length : Int) < (v.2.1.len : Int) by rw [h.lvl]; omega), cond_false]
      · have hm := pgs_mem hy
        obtain ⟨j, hj1, hj2⟩ := List.getElem_of_mem hm.2.2
        refine hj j hj1 hj1 ?_
        rw [hj2]
        simp only
        omega) (y := (0, ())) (H := H ++ [.cells (vC v) .exact]) ⟨rfl, Keep.refl _ _, fun j _ hj => absurd hj (Nat.not_lt_zero _)⟩
  refine ⟨G, ?_, hk0.trans g2⟩
  unfold ref08_State_Get
  refine (bind_to g1).trans ?_
  rcases g3 with ⟨rfl, hn⟩ | ⟨c, rfl, hc⟩
  · rw [hn]; rfl
  · rw [hc]; rfl
theorem rf_snoc (l : List (Int × Int)) (x : Int × Int) : (rfOf (l ++ [x])).length = (rfOf l).length + if cnt l x.2 = 0 then 1 else 0 := by
  have e : ains (rfOf l) x.2 ((cnt l x.2 : Int) + 1) = rfOf (l ++ [x]) := ((rfOf_ok l).more (lv' := l ++ [x]) fun c => by rw [cnt_append, cnt_cons, cnt_nil]; omega).uniq (rfOf_ok _)
  rw [← e, ains_length (rfOf_ok l).asc, (rfOf_ok l).find]
  by_cases h0 : cnt l x.2 = 0
  · rw [if_pos h0, if_pos h0]; rfl
  · rw [if_neg h0, if_neg h0]; rfl
theorem rf_live (h : RfAt H v st) : ref08_State_Live v H = some ((((rfOf st.lv).length : Int), ()), H ++ [.cells (vC v) .exact]) := by
  have hH := h.keep (Keep.app (fun _ => False) H [.cells (vC v) .exact]) fun _ _ hf => hf
  have hv : rdSl 3 (H ++ [.cells (vC v) .exact]) H.length 1 = some v.2.1 := rdSl_of (by rw [tl_get0]; rfl) rfl
  have hlm : (st.lv.map rlv).length = st.lv.length := List.length_map _
  have hmany := h.w.many
  have row : ∀ i (hi : i < st.lv.length), ∃ b o, Sl.at 3 v.2.1 (i : Int) = some (b, o) ∧ rdI .i64 (H ++ [.cells (vC v) .exact]) b (o + 2) = some st.lv[i].2 := fun i hi => by
    have hx : (st.lv.map rlv)[i]'(by omega) = rlv st.lv[i] := List.getElem_map _
    exact row_int (cts := ctL) (rows := st.lv.map rlv) hH.lv (i := i) (by omega) (by decide) (j := 2) (n := st.lv[i].2) (by decide) (by rw [hx]; rfl)
  have hle : ∀ i, (rfOf (st.lv.take i)).length ≤ i := fun i => by
    induction i with
    | zero => exact Nat.le_refl _
    | succ i ih =>
      by_cases hi : i < st.lv.length
      · rw [take_snoc hi, rf_snoc]; split <;> omega
      · rw [List.take_of_length_le (by omega)]
        rw [List.take_of_length_le (by omega)] at ih
        omega
  have inner : ∀ (c i : Nat) (hi : i < st.lv.length), loopW (ref08_State_Live.s1 H ((c : Int), (i : Int), ())) (true, 0, ()) (H ++ [.cells (vC v) .exact]) = some ((decide (cnt (st.lv.take i) st.lv[i].2 = 0), ()), H ++ [.cells (vC v) .exact]) := fun c i hi => by
    obtain ⟨b1, o1, r1, r2⟩ := row i hi
    refine loop_for' i (fun j => (decide (cnt (st.lv.take j) st.lv[i].2 = 0), (j : Int), ())) (fun _ => H ++ [.cells (vC v) .exact]) rfl rfl (fun j hj => ?_) ?_
    · obtain ⟨b2, o2, r3, r4⟩ := row j (by omega)
      have hw := wrap_succ (show j < 9223372036854775807 by omega)
      unfold ref08_State_Live.s1
      simp only [decide_eq_true (show (j : Int) < (i : Int) by omega), cond_true]
      rw [take_snoc (show j < st.lv.length by omega), cnt_append, cnt_cons, cnt_nil]
      by_cases e : cnt (st.lv.take j) st.lv[i].2 = 0
      · rw [decide_eq_true e, cond_true]
        simp only [hv, Option.bind_some, r1, r2, r3, r4, hw]
        by_cases e2 : st.lv[j].2 = st.lv[i].2
        · rw [decide_eq_true e2, if_pos e2, decide_eq_false (by omega)]; rfl
        · rw [decide_eq_false e2, if_neg e2, decide_eq_true (by omega)]; rfl
      · rw [decide_eq_false e, cond_false, hw, decide_eq_false (by omega)]
    · unfold ref08_State_Live.s1
      simp only [decide_eq_false (show ¬ (i : Int) < (i : Int) by omega), cond_false]
  have g1 : loopW (ref08_State_Live.s2 H) (0, 0, ()) (H ++ [.cells (vC v) .exact]) = some ((((rfOf st.lv).length : Int), ()), H ++ [.cells (vC v) .exact]) := by
    refine loop_for' st.lv.length (fun i => (((rfOf (st.lv.take i)).length : Int), (i : Int), ())) (fun _ => H ++ [.cells (vC v) .exact]) rfl rfl (fun i hi => ?_) ?_
    · have h1 := hle i
      unfold ref08_State_Live.s2
      simp only [hv, Option.bind_some, decide_eq_true (show (i : Int) < (v.2.1.len : Int) by rw [h.lvl]; omega), cond_true, inner _ i hi]
      rw [take_snoc hi, rf_snoc, wrap_succ (by omega), wrap_succ (by omega)]
      by_cases e : cnt (st.lv.take i) st.lv[i].2 = 0
      · rw [decide_eq_true e, if_pos e]; rfl
      · rw [decide_eq_false e, if_neg e]; rfl
    · unfold ref08_State_Live.s2
      simp only [hv, Option.bind_some, decide_eq_false (show ¬ (st.lv.length : Int) < (v.2.1.len : Int) by rw [h.lvl]; omega), cond_false, List.take_length]
  unfold ref08_State_Live
  exact (bind_to g1).trans rfl
end
end Ev
