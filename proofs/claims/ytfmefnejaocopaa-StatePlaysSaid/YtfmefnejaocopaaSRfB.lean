/- The plain state: leaves away. -/
import Derived.Test.YtfmefnejaocopaaSRfA
set_option linter.unusedSimpArgs false
set_option linter.unusedVariables false
namespace Ev
open Go (IntKind)

/-- Does a leaf stay? -/
def stayL (id p : Int) (x : Int × Int) : Bool := !(decide (x.1 / 1024 = id) && (decide (p < 0) || decide (x.1 % 1024 = p)))
section
variable {H G : Heap} {v : RfV} {lv : List (Int × Int)}
theorem without_step {K : Heap} {s0 : Sl} (hrow : Row K 3 v.2.1 (rowsOf ctL (lv.map rlv))) (hl : v.2.1.len = lv.length) {id p : Int} (hb : K[H.length]? = some (.cells (vC v) .exact)) (hb0 : ∀ o, s0.p ≠ some (H.length, o)) (hv0 : ∀ b o o', v.2.1.p = some (b, o) → s0.p ≠ some (b, o'))
    {i : Nat} (hi : i < lv.length) (hm : lv.length ≤ 20000) {s : Sl} {cs : List C} (hE : Em K s0 3 G s cs) (hn : s.len ≤ 20000) :
    ∃ s' G', ref08_State_without.s1 id p H (s, (i : Int), ()) G = some (.inl (s', ((i + 1 : Nat) : Int), ()), G') ∧ Em K s0 3 G' s' (cs ++ if stayL id p lv[i] = true then Tup.mk ctL (rlv lv[i]) else []) ∧ s'.len = s.len + if stayL id p lv[i] = true then 1 else 0 := by
  have hbox := hE.get hb hb0
  have hr := hE.row hrow hv0
  have hlm : (lv.map rlv).length = lv.length := List.length_map _
  obtain ⟨b0, o0, r1, r2, _⟩ := Row.rd (cts := ctL) (rows := lv.map rlv) hr (i := i) (by omega) (by decide)
  have r1 : Sl.at 3 v.2.1 (i : Int) = some (b0, o0) := r1
  have hx : (lv.map rlv)[i]'(by omega) = rlv lv[i] := List.getElem_map _
  rw [hx] at r2
  generalize lv[i] = x at r2 ⊢
  have r2' : rd G (.agg [.int .i64, .int .i64, .int .i64]) b0 o0 = (some (x.1 / 1024, x.1 % 1024, x.2, ()) : Option (Int × Int × Int × Unit)) := r2
  have hd : decide ((i : Int) < (v.2.1.len : Int)) = true := decide_eq_true (by rw [hl]; omega)
  have hv : rdSl 3 G H.length 1 = some v.2.1 := rdSl_of hbox rfl
  obtain ⟨sT, GT, t1, t2, t3, _⟩ := hE.add [.cells [.int .i64 (x.1 / 1024), .int .i64 (x.1 % 1024), .int .i64 x.2] .exact, .cells [.int .i64 (x.1 / 1024), .int .i64 (x.1 % 1024), .int .i64 x.2] .exact] (by decide) (new := [.int .i64 (x.1 / 1024), .int .i64 (x.1 % 1024), .int .i64 x.2]) (bytes := 24) rfl (by omega) (by omega)
  have hEF := hE.push [.cells [.int .i64 (x.1 / 1024), .int .i64 (x.1 % 1024), .int .i64 x.2] .exact]
  unfold ref08_State_without.s1
  simp only [hv, hd, cond_true, Option.bind_some, r1]
  simp only [r2', Option.bind_some, Option.map_some, cond_true, cond_false, List.append_assoc, List.cons_append, List.nil_append, List.length_append, List.length_cons, List.length_nil, Nat.zero_add, rd_t0, rd_t1, rdI_t0, rdI_t1, rdB_t0, rdB_t1, rdM_t0, rdM_t1, rd_c1, rdI_c1, rdB_c1, rdM_c1, rdI_c0, rdB_c0, rdM_c0, wr_t0, wr_t1, wr_c0, wr_c1, setL, List.set, List.getElem?_cons_zero, List.getElem?_cons_succ, un_i, un_b, un_m, un_s, un_sl1, un_sl2, un_sl3, Nat.le_refl, rd_iiib, rd_iiiiii, rd_ibm, rd_iii, rd_iib, rd_ii, rd_3312, rd_iiii, rd_si, rd_33121, rd_33121i, slRow_t0, slRow_t1, sl_c0, sl_c1, wrap_succ (show i < 9223372036854775807 by omega)]
  by_cases h1 : x.1 / 1024 = id
  · by_cases h2 : 0 ≤ p
    · by_cases h3 : x.1 % 1024 = p
      · have hs : stayL id p x = false := by unfold stayL; rw [decide_eq_true h1, decide_eq_true h3]; simp
        simp only [decide_eq_true h1, decide_eq_true h2, decide_eq_true h3, Bool.not_true, cond_true, cond_false, Option.bind_some, hs, Bool.false_eq_true, if_false, List.append_nil]
        exact ⟨_, _, rfl, hEF, rfl⟩
      · have hs : stayL id p x = true := by unfold stayL; rw [decide_eq_true h1, decide_eq_false h3, decide_eq_false (show ¬ p < 0 by omega)]; rfl
        simp only [decide_eq_true h1, decide_eq_true h2, decide_eq_false h3, Bool.not_true, Bool.not_false, cond_true, cond_false, Option.bind_some, hs, if_true, Option.bind_some, Option.map_some, cond_true, cond_false, List.append_assoc, List.cons_append, List.nil_append, List.length_append, List.length_cons, List.length_nil, Nat.zero_add, rd_t0, rd_t1, rdI_t0, rdI_t1, rdB_t0, rdB_t1, rdM_t0, rdM_t1, rd_c1, rdI_c1, rdB_c1, rdM_c1, rdI_c0, rdB_c0, rdM_c0, wr_t0, wr_t1, wr_c0, wr_c1, setL, List.set, List.getElem?_cons_zero, List.getElem?_cons_succ, un_i, un_b, un_m, un_s, un_sl1, un_sl2, un_sl3, Nat.le_refl, rd_iiib, rd_iiiiii, rd_ibm, rd_iii, rd_iib, rd_ii, rd_3312, rd_iiii, rd_si, rd_33121, rd_33121i, slRow_t0, slRow_t1, sl_c0, sl_c1, t1]
        exact ⟨_, _, rfl, t2, t3⟩
    · have hs : stayL id p x = false := by unfold stayL; rw [decide_eq_true h1, decide_eq_true (show p < 0 by omega)]; simp
      simp only [decide_eq_true h1, decide_eq_false h2, Bool.not_true, cond_true, cond_false, Option.bind_some, hs, Bool.false_eq_true, if_false, List.append_nil]
      exact ⟨_, _, rfl, hEF, rfl⟩
  · have hs : stayL id p x = true := by unfold stayL; rw [decide_eq_false h1]; rfl
    simp only [decide_eq_false h1, Bool.not_false, cond_true, Option.bind_some, hs, if_true, Option.bind_some, Option.map_some, cond_true, cond_false, List.append_assoc, List.cons_append, List.nil_append, List.length_append, List.length_cons, List.length_nil, Nat.zero_add, rd_t0, rd_t1, rdI_t0, rdI_t1, rdB_t0, rdB_t1, rdM_t0, rdM_t1, rd_c1, rdI_c1, rdB_c1, rdM_c1, rdI_c0, rdB_c0, rdM_c0, wr_t0, wr_t1, wr_c0, wr_c1, setL, List.set, List.getElem?_cons_zero, List.getElem?_cons_succ, un_i, un_b, un_m, un_s, un_sl1, un_sl2, un_sl3, Nat.le_refl, rd_iiib, rd_iiiiii, rd_ibm, rd_iii, rd_iib, rd_ii, rd_3312, rd_iiii, rd_si, rd_33121, rd_33121i, slRow_t0, slRow_t1, sl_c0, sl_c1, t1]
    exact ⟨_, _, rfl, t2, t3⟩
theorem stay_rows (id p : Int) : ∀ lv : List (Int × Int), (lv.map fun x => if stayL id p x = true then Tup.mk ctL (rlv x) else []).flatten = rowsOf ctL ((lv.filter (stayL id p)).map rlv) ∧ (lv.map fun x => if stayL id p x = true then 1 else 0).sum = (lv.filter (stayL id p)).length
  | [] => ⟨rfl, rfl⟩
  | x :: lv => by
    obtain ⟨h1, h2⟩ := stay_rows id p lv
    rw [List.map_cons, List.flatten_cons, h1, List.map_cons, List.sum_cons, h2, List.filter_cons]
    by_cases e : stayL id p x = true
    · rw [if_pos e, if_pos e, if_pos e, List.length_cons]
      exact ⟨rfl, by omega⟩
    · rw [if_neg e, if_neg e, if_neg e]
      exact ⟨rfl, by omega⟩
theorem sum_ones (id p : Int) : ∀ lv : List (Int × Int), (lv.map fun x => if stayL id p x = true then 1 else 0).sum ≤ lv.length
  | [] => Nat.le_refl _
  | x :: lv => by
    have := sum_ones id p lv
    rw [List.map_cons, List.sum_cons, List.length_cons]
    split <;> omega
/-- Leaves away: the others' slice. -/
theorem rf_without (hrow : Row H 3 v.2.1 (rowsOf ctL (lv.map rlv))) (hl : v.2.1.len = lv.length) (hm : lv.length ≤ 19000) (id p : Int) : ∃ s G, ref08_State_without v id p H = some (((v.1, s, v.2.2.1, v.2.2.2.1, ()), ()), G) ∧
    Row G 3 s (rowsOf ctL ((lv.filter (stayL id p)).map rlv)) ∧ s.len = (lv.filter (stayL id p)).length ∧ Keep (fun _ => False) H G ∧ ∀ b o, s.p = some (b, o) → H.length + 2 ≤ b := by
  generalize ht : [Blk.cells (vC v) .exact, .cells [.sl 3 Sl.nil, .sl 3 Sl.nil, .sl 1 Sl.nil, .sl 2 Sl.nil] .exact, .cells [] .exact] = t
  have ht0 : (H ++ t)[H.length]? = some (.cells (vC v) .exact) := by rw [tl_get0, ← ht]; rfl
  have ht1 : (H ++ t)[H.length + 1]? = some (.cells [.sl 3 Sl.nil, .sl 3 Sl.nil, .sl 1 Sl.nil, .sl 2 Sl.nil] .exact) := by rw [tl_get1, ← ht]; rfl
  have ht2 : (H ++ t)[H.length + 2]? = some (.cells [] .exact) := by rw [tl_get1, ← ht]; rfl
  have htl : t.length = 3 := by rw [← ht]; rfl
  have hoff : ∀ b, b < H.length + 2 → ∀ o, (⟨some (H.length + 2, 0), 0, 0⟩ : Sl).p ≠ some (b, o) := fun b hb o hh => by cases hh; omega
  have hrow1 : Row (H ++ t) 3 v.2.1 (rowsOf ctL (lv.map rlv)) := hrow.keep (Keep.app (fun _ => False) H t) fun _ _ _ hf => hf
  have h0 : Em (H ++ t) ⟨some (H.length + 2, 0), 0, 0⟩ 3 (H ++ t) ⟨some (H.length + 2, 0), 0, 0⟩ [] := Em.start ⟨rfl, rfl, fun hh => (by cases hh), fun a ha => by cases ha; exact ⟨rfl, .inr ht2⟩⟩
  obtain ⟨s, G, g1, g2, g3⟩ := emitN (step := ref08_State_without.s1 id p H) lv (fun x => if stayL id p x = true then Tup.mk ctL (rlv x) else []) (fun x => if stayL id p x = true then 1 else 0) h0
    (fun i hi s G cs hE hn => without_step hrow1 hl ht0 (hoff _ (by omega)) (fun b o o' hp => hoff b (by have := hrow.lt hp; omega) o') hi (by omega) hE (by
      have h1 := sum_take_le (lv.map fun x => if stayL id p x = true then 1 else 0) i
      have h2 := sum_ones id p lv
      rw [← List.map_take] at h1
      rw [hn]; simp only; omega))
    (fun s G cs hE => by
      have hv : rdSl 3 G H.length 1 = some v.2.1 := rdSl_of (hE.get ht0 (hoff _ (by omega))) rfl
      unfold ref08_State_without.s1
      simp only [hv, Option.bind_some, decide_eq_false (show ¬ (lv.length : Int) < (v.2.1.len : Int) by rw [hl]; omega), cond_false])
  rw [List.nil_append, (stay_rows id p lv).1] at g2
  rw [(stay_rows id p lv).2] at g3
  have hbox := g2.get ht0 (hoff _ (by omega))
  have hres := g2.get ht1 (hoff _ (by omega))
  obtain ⟨f1, f2, f3⟩ := fin4 (G := G) (get_lt hbox) hres rfl (by omega) (v.1, s, v.2.2.1, v.2.2.2.1, ())
  have hw : wr G H.length 1 [.sl 3 s] = some (G.set H.length (.cells (vC (v.1, s, v.2.2.1, v.2.2.2.1, ())) .exact)) := wr1_of hbox (by decide) (by simp [vC])
  have hso : ∀ b o, s.p = some (b, o) → H.length + 2 ≤ b := fun b o hp => by
    rcases g2.o _ hp with hh | ⟨o', hh⟩
    · simp only [List.length_append] at hh; omega
    · have hh : some (H.length + 2, 0) = some (b, o') := hh
      cases hh; omega
  have kf : Keep (fun b => b = H.length ∨ b = H.length + 1) G ((G.set H.length (.cells (vC (v.1, s, v.2.2.1, v.2.2.2.1, ())) .exact)).set (H.length + 1) (.cells (vC (v.1, s, v.2.2.1, v.2.2.2.1, ())) .exact)) := set2_keep _ _ _ _ _
  subst ht
  refine ⟨s, _, ?_, (Row.grown g2.g).keep kf fun b o hp hh => by have := hso b o hp; omega, by rw [g3]; exact Nat.zero_add _, ?_, hso⟩
  · unfold ref08_State_without
    simp only [List.append_assoc, List.cons_append, List.nil_append, List.length_append, List.length_cons, List.length_nil, Nat.zero_add]
    exact (bind_to g1).trans ((bind_to hw).trans ((bind_to f1).trans ((bind_to f2).trans ((bind_to f3).trans rfl))))
  · refine ⟨by have h1 := g2.k.len; have h2 := kf.len; simp only [List.length_append] at h1; omega, fun b hb _ => ?_⟩
    have hne : ¬ (b = H.length ∨ b = H.length + 1) := by omega
    have hbG : b < G.length := by have h1 := g2.k.len; simp only [List.length_append] at h1; omega
    rw [kf.same b hbG hne, g2.k.same b (by simp only [List.length_append]; omega) (fun ⟨o, ho⟩ => hoff b (by omega) o ho), List.getElem?_append_left hb]
end
theorem stay_off (lv : List (Int × Int)) (id : Int) {p : Int} (hp : p < 0) : lv.filter (stayL id p) = lvOff lv id := by
  unfold lvOff
  congr 1
  funext x
  unfold stayL
  rw [decide_eq_true hp]; simp
theorem adrop_filter {α : Type} {l : List (Int × α)} (h : Asc l) (k : Int) : l.filter (fun x => !decide (x.1 = k)) = adrop l k := by
  induction l with
  | nil => rfl
  | cons x l ih =>
    rw [adrop, List.filter_cons]
    by_cases e : x.1 = k
    · rw [if_neg (by simp [e]), if_pos e]
      exact List.filter_eq_self.2 fun y hy => by have := h.head hy; simp; omega
    · rw [if_pos (by simp [e]), if_neg e, ih h.tail]
theorem stay_drop {lv : List (Int × Int)} (h : Asc lv) (id : Int) {p : Int} (hp : 0 ≤ p ∧ p < 1024) : lv.filter (stayL id p) = adrop lv (id * 1024 + p) := by
  rw [← adrop_filter h]
  congr 1
  funext x
  unfold stayL
  rw [decide_eq_false (show ¬ p < 0 by omega)]
  by_cases e : x.1 = id * 1024 + p
  · rw [decide_eq_true e, decide_eq_true (show x.1 / 1024 = id by omega), decide_eq_true (show x.1 % 1024 = p by omega)]; rfl
  · rw [decide_eq_false e]
    by_cases e1 : x.1 / 1024 = id
    · rw [decide_eq_false (show ¬ x.1 % 1024 = p by omega)]; simp
    · rw [decide_eq_false e1]; rfl
end Ev
