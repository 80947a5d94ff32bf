/- The plain state: what only reads it. -/
import Derived.Test.YtfmefnejaocopaaSRfB
set_option linter.unusedSimpArgs false
set_option linter.unusedVariables false
namespace Ev
open Go (IntKind)

section
variable {H G : Heap} {v : RfV} {st : Sta}
theorem rf_find (h : RfAt H v st) (id : Int) : ∃ r, ref08_State_find v id H = some ((r, ()), H ++ [.cells (vC v) .exact]) ∧ (afind st.sp id = none → r = -1) ∧ ∀ x, afind st.sp id = some x → ∃ i : Nat, r = (i : Int) ∧ ∃ hi : i < st.sp.length, st.sp[i] = (id, x) := by
  have hH := h.keep (Keep.app (fun _ => False) H [.cells (vC v) .exact]) fun _ _ hf => hf
  have hv : rdSl 3 (H ++ [.cells (vC v) .exact]) H.length 0 = some v.1 := rdSl_of (by rw [tl_get0]; rfl) rfl
  have hlm : (st.sp.map rsp).length = st.sp.length := List.length_map _
  have hfew := h.w.few
  obtain ⟨x, G, g1, rfl, g2⟩ := loop_rise (step := ref08_State_find.s1 id H) st.sp.length (fun i y G => y = ((i : Int), ()) ∧ G = H ++ [.cells (vC v) .exact] ∧ ∀ j (hj : j < st.sp.length), j < i → st.sp[j].1 ≠ id)
    (fun x G => G = H ++ [.cells (vC v) .exact] ∧ ((x = .inl () ∧ afind st.sp id = none) ∨ ∃ i : Nat, x = .inr ((i : Int), ()) ∧ ∃ hi : i < st.sp.length, st.sp[i].1 = id))
    (fun i y G hi ⟨hy, hG, hj⟩ => by
      subst hy hG
      obtain ⟨b0, o0, r1, r2, _, cs, bk, r3, r4, r5⟩ := Row.rd (cts := ctP) (rows := st.sp.map rsp) hH.sp (i := i) (by omega) (by decide)
      have r1 : Sl.at 3 v.1 (i : Int) = some (b0, o0) := r1
      have hx : (st.sp.map rsp)[i]'(by omega) = rsp st.sp[i] := List.getElem_map _
      rw [hx] at r5
      have r6 : rdI .i64 (H ++ [.cells (vC v) .exact]) b0 o0 = some st.sp[i].1 := by
        refine rdI_of r3 ?_
        have := congrArg (fun l => l[0]?) r5
        simp only [List.getElem?_take, List.getElem?_drop] at this
        have h2 : cs[o0]? = (Tup.mk ctP (rsp st.sp[i]))[0]? := by simpa using this
        exact h2
      have hd : decide ((i : Int) < (v.1.len : Int)) = true := decide_eq_true (by rw [h.spl]; omega)
      by_cases e : st.sp[i].1 = id
      · right
        refine ⟨_, _, ?_, rfl, .inr ⟨i, rfl, hi, e⟩⟩
        unfold ref08_State_find.s1
        simp only [hv, hd, cond_true, Option.bind_some, r1, r6, decide_eq_true e]
      · left
        refine ⟨_, _, ?_, rfl, rfl, fun j hjl hji => ?_⟩
        · unfold ref08_State_find.s1
          simp only [hv, hd, cond_true, Option.bind_some, r1, r6, decide_eq_false e, cond_false]
          rw [wrap_succ (by omega)]
        · by_cases e2 : j = i
          · subst e2; exact e
          · exact hj j hjl (by omega))
    (fun y G ⟨hy, hG, hj⟩ => by
      subst hy hG
      refine ⟨_, _, ?_, rfl, .inl ⟨rfl, afind_none fun x hx e => ?_⟩⟩
      · unfold ref08_State_find.s1
        simp only [hv, Option.bind_some, decide_eq_false (show ¬ (st.sp.length : Int) < (v.1.len : Int) by rw [h.spl]; omega), cond_false]
      · obtain ⟨j, hj1, rfl⟩ := List.getElem_of_mem hx
        exact hj j hj1 hj1 e) (y := (0, ())) (H := H ++ [.cells (vC v) .exact]) ⟨rfl, rfl, fun j _ hj => absurd hj (Nat.not_lt_zero _)⟩
  have hg : ∀ r, Sum.elim (fun _ => some (((-1 : Int), ()), H ++ [Blk.cells (vC v) .exact])) (fun z : Int × Unit => some ((z.1, ()), H ++ [Blk.cells (vC v) .exact])) x = some ((r, ()), H ++ [Blk.cells (vC v) .exact]) → ref08_State_find v id H = some ((r, ()), H ++ [.cells (vC v) .exact]) := fun r hr => by
    unfold ref08_State_find
    exact (bind_to g1).trans hr
  rcases g2 with ⟨rfl, hn⟩ | ⟨i, rfl, hi, he⟩
  · exact ⟨-1, hg _ rfl, fun _ => rfl, fun x hx => by rw [hn] at hx; cases hx⟩
  · have hf := h.w.sp.find (k := st.sp[i].1) (v := st.sp[i].2) (List.getElem_mem hi)
    rw [he] at hf
    exact ⟨(i : Int), hg _ rfl, fun hn => (by rw [hf] at hn; cases hn), fun x hx => by
      rw [hf] at hx
      cases hx
      exact ⟨i, rfl, hi, by rw [← he]⟩⟩
theorem row_int {K : Heap} {cts : List CT} {s : Sl} {rows : List (Tup cts)} (h : Row K cts.length s (rowsOf cts rows)) {i : Nat} (hi : i < rows.length) (hpos : 0 < cts.length) {j : Nat} {n : Int} (hj : j < cts.length) (hn : (Tup.mk cts rows[i])[j]? = some (.int .i64 n)) :
    ∃ b o, Sl.at cts.length s (i : Int) = some (b, o) ∧ rdI .i64 K b (o + j) = some n := by
  obtain ⟨b, o, r1, _, _, cs, bk, r3, r4, r5⟩ := h.rd hi hpos
  refine ⟨b, o, r1, rdI_of r3 ?_⟩
  have := congrArg (fun l => l[j]?) r5
  simp only [List.getElem?_take, List.getElem?_drop, if_pos hj, hn] at this
  exact this
theorem rf_refs (h : RfAt H v st) (c : Int) : ref08_State_Refs v c H = some (((cnt st.lv c : Int), ()), H ++ [.cells (vC v) .exact]) := by
  have hH := h.keep (Keep.app (fun _ => False) H [.cells (vC v) .exact]) fun _ _ hf => hf
  have hv : rdSl 3 (H ++ [.cells (vC v) .exact]) H.length 1 = some v.2.1 := rdSl_of (by rw [tl_get0]; rfl) rfl
  have hlm : (st.lv.map rlv).length = st.lv.length := List.length_map _
  have hmany := h.w.many
  have g1 : loopW (ref08_State_Refs.s1 c H) (0, 0, ()) (H ++ [.cells (vC v) .exact]) = some (((cnt st.lv c : Int), ()), H ++ [.cells (vC v) .exact]) := by
    refine loop_for' st.lv.length (fun i => ((cnt (st.lv.take i) c : Int), (i : Int), ())) (fun _ => H ++ [.cells (vC v) .exact]) rfl rfl (fun i hi => ?_) ?_
    · have hx : (st.lv.map rlv)[i]'(by omega) = rlv st.lv[i] := List.getElem_map _
      obtain ⟨b0, o0, r1, r2⟩ := row_int (cts := ctL) (rows := st.lv.map rlv) hH.lv (i := i) (by omega) (by decide) (j := 2) (n := st.lv[i].2) (by decide) (by rw [hx]; rfl)
      have r1 : Sl.at 3 v.2.1 (i : Int) = some (b0, o0) := r1
      have hd : decide ((i : Int) < (v.2.1.len : Int)) = true := decide_eq_true (by rw [h.lvl]; omega)
      have hc := cnt_le (st.lv.take i) c
      rw [List.length_take] at hc
      unfold ref08_State_Refs.s1
      simp only [hv, hd, cond_true, Option.bind_some, r1, r2]
      rw [take_snoc hi, cnt_append, cnt_cons, cnt_nil, wrap_succ (by omega), wrap_succ (by omega)]
      by_cases e : st.lv[i].2 = c
      · rw [decide_eq_true e, if_pos e]; rfl
      · rw [decide_eq_false e, if_neg e]; rfl
    · unfold ref08_State_Refs.s1
      simp only [hv, Option.bind_some, decide_eq_false (show ¬ (st.lv.length : Int) < (v.2.1.len : Int) by rw [h.lvl]; omega), cond_false, List.take_length]
  unfold ref08_State_Refs
  exact (bind_to g1).trans rfl
theorem pgs_snoc (l : List (Int × Int)) (x : Int × Int) (id : Int) : (pgs (l ++ [x]) id).length = (pgs l id).length + if x.1 / 1024 = id then 1 else 0 := by
  rw [pgs_len, pgs_len, List.filter_append, List.length_append, List.filter_cons]
  by_cases e : x.1 / 1024 = id
  · rw [if_pos (decide_eq_true e), if_pos e]; rfl
  · rw [if_neg (by simpa using e), if_neg e]; rfl
theorem rf_pages (h : RfAt H v st) (id : Int) : ref08_State_Pages v id H = some ((((pgs st.lv id).length : Int), ()), H ++ [.cells (vC v) .exact]) := by
  have hH := h.keep (Keep.app (fun _ => False) H [.cells (vC v) .exact]) fun _ _ hf => hf
  have hv : rdSl 3 (H ++ [.cells (vC v) .exact]) H.length 1 = some v.2.1 := rdSl_of (by rw [tl_get0]; rfl) rfl
  have hlm : (st.lv.map rlv).length = st.lv.length := List.length_map _
  have hmany := h.w.many
  have g1 : loopW (ref08_State_Pages.s1 id H) (0, 0, ()) (H ++ [.cells (vC v) .exact]) = some ((((pgs st.lv id).length : Int), ()), H ++ [.cells (vC v) .exact]) := by
    refine loop_for' st.lv.length (fun i => (((pgs (st.lv.take i) id).length : Int), (i : Int), ())) (fun _ => H ++ [.cells (vC v) .exact]) rfl rfl (fun i hi => ?_) ?_
    · have hx : (st.lv.map rlv)[i]'(by omega) = rlv st.lv[i] := List.getElem_map _
      obtain ⟨b0, o0, r1, r2⟩ := row_int (cts := ctL) (rows := st.lv.map rlv) hH.lv (i := i) (by omega) (by decide) (j := 0) (n := st.lv[i].1 / 1024) (by decide) (by rw [hx]; rfl)
      have r1 : Sl.at 3 v.2.1 (i : Int) = some (b0, o0) := r1
      have hd : decide ((i : Int) < (v.2.1.len : Int)) = true := decide_eq_true (by rw [h.lvl]; omega)
      have hc : (pgs (st.lv.take i) id).length ≤ (st.lv.take i).length := by rw [pgs_len]; exact List.length_filter_le _ _
      rw [List.length_take] at hc
      rw [Nat.add_zero] at r2
      unfold ref08_State_Pages.s1
      simp only [hv, hd, cond_true, Option.bind_some, r1, r2]
      rw [take_snoc hi, pgs_snoc, wrap_succ (by omega), wrap_succ (by omega)]
      by_cases e : st.lv[i].1 / 1024 = id
      · rw [decide_eq_true e, if_pos e]; rfl
      · rw [decide_eq_false e, if_neg e]; rfl
    · unfold ref08_State_Pages.s1
      simp only [hv, Option.bind_some, decide_eq_false (show ¬ (st.lv.length : Int) < (v.2.1.len : Int) by rw [h.lvl]; omega), cond_false, List.take_length]
  unfold ref08_State_Pages
  exact (bind_to g1).trans rfl
end
end Ev
