/- What a state tells: its spaces, how many pages, everything as records. -/
import Derived.Test.YtfmefnejaocopaaSStA
import Derived.Test.YtfmefnejaocopaaEm
set_option linter.unusedSimpArgs false
set_option linter.unusedVariables false
namespace Ev
open Go (IntKind)

abbrev ctI : List CT := [.int .i64, .int .i64, .int .i64, .bool]
abbrev ctR : List CT := [.int .i64, .int .i64, .int .i64, .int .i64, .int .i64, .int .i64]
def infos (st : Sta) : List (Tup ctI) := st.sp.map fun x => spI st x.1
theorem rowsOf_map {α : Type} {cts : List CT} (l : List α) (g : α → Tup cts) : rowsOf cts (l.map g) = (l.map fun x => Tup.mk cts (g x)).flatten := by
  unfold rowsOf; rw [List.map_map]; rfl
section
variable {H : Heap} {a : SaA} {st : Sta}
theorem sp_keys (w : SaW st) : st.sp.length ≤ 1099511627776 ∧ ∀ x ∈ st.sp, -9223372036854775808 ≤ x.1 ∧ x.1 ≤ 9223372036854775807 :=
  ⟨by have := w.few; omega, fun x hx => by have := w.ids x hx; omega⟩
theorem idx_get {l : List Int} {i : Nat} (hi : i < l.length) : l[i]? = some l[i] := List.getElem?_eq_getElem hi
theorem st_spaces (h : StAt H a st) : ∃ s G, state_State_Spaces (some (a.c, 0)) H = some ((s, ()), G) ∧ Em H ⟨none, 0, 0⟩ 4 G s (rowsOf ctI (infos st)) ∧ s.len = st.sp.length := by
  obtain ⟨ks, K, e1, e2, e3, e4, e5, e6⟩ := h.sp.sorted (sp_keys h.w).1 (sp_keys h.w).2
  have hK : StAt K a st := h.keep e6 fun _ _ => id
  have hrow : Row K 1 ks (intC (st.sp.map Prod.fst)) := ⟨e2, e4⟩
  unfold state_State_Spaces
  simp only [Option.isNone_some, cond_false, Option.bind_some, h.r0, maps_Keys_map_int_state_space_int_state_space, e1]
  obtain ⟨s, G, g1, g2⟩ := emit (H := K) (s0 := ⟨none, 0, 0⟩) (es := 4) (step := state_State_Spaces.s1 (some (a.c, 0)) ((ks, ()), K)) (st.sp.map Prod.fst) (fun k => Tup.mk ctI (spI st k)) (Em.start (Grown.ni K 4))
    (fun i hi s G cs hE hn => by
      have hl : (st.sp.map Prod.fst).length ≤ 15 := by rw [List.length_map]; exact h.w.few
      have hG : StAt G a st := hK.keep hE.k fun _ _ ⟨o, ho⟩ => by cases ho
      have hr := hE.row hrow fun _ _ _ _ hh => by cases hh
      obtain ⟨b, o, _, r1, r2⟩ := hr.int hi
      obtain ⟨G1, t1, t2⟩ := st_space hG (st.sp.map Prod.fst)[i]
      have hE1 := hE.keep t2 fun _ hf => hf.elim
      have hd : decide ((i : Int) < (ks.len : Int)) = true := decide_eq_true (by rw [e3]; simp at hi; omega)
      unfold state_State_Spaces.s1
      simp only [hd, r1, r2, t1, Option.bind_some, Option.map_some, cond_true, cond_false, List.append_assoc, List.cons_append, List.nil_append, List.length_append, List.length_cons, List.length_nil, Nat.zero_add, rd_t0, rd_t1, rdI_t0, rdI_t1, rdB_t0, rdB_t1, rdM_t0, rdM_t1, rd_c1, rdI_c1, rdB_c1, rdM_c1, rdI_c0, rdB_c0, rdM_c0, wr_t0, wr_t1, wr_c0, wr_c1, setL, List.set, List.getElem?_cons_zero, List.getElem?_cons_succ, un_i, un_b, un_m, un_s, Nat.le_refl, rd_iiib, rd_iiiiii, rd_ibm, rd_iii, rd_iib, rd_ii, rd_3312, rd_iiii, rd_si, rd_33121, rd_33121i, slRow_t0, slRow_t1, sl_c0, sl_c1]
      have hE2 := hE1.push [.cells (Tup.mk ctI (spI st (st.sp.map Prod.fst)[i])) .exact, .cells (Tup.mk ctI (spI st (st.sp.map Prod.fst)[i])) .exact]
      obtain ⟨s', G', u1, u2, u3, _, _⟩ := hE2.app (by decide) (new := Tup.mk ctI (spI st (st.sp.map Prod.fst)[i])) (bytes := 32) rfl (by rw [hn]; simp only; omega) (by rw [hn]; simp only; omega)
      refine ⟨s', G', (bind_to u1).trans ?_, u2, u3⟩
      simp only [wrap_succ (show i < 9223372036854775807 by omega)])
    (fun s G => by
      have hd : decide (((st.sp.map Prod.fst).length : Int) < (ks.len : Int)) = false := decide_eq_false (by rw [e3]; simp)
      unfold state_State_Spaces.s1
      simp only [hd, cond_false])
  refine ⟨s, G, ?_, ?_, ?_⟩
  · rw [g1]; rfl
  · have := (g2.1.under (H := H) (e6.mono fun _ hf => hf.elim))
    rw [List.nil_append, List.map_map] at this
    have e : rowsOf ctI (infos st) = (st.sp.map fun x => Tup.mk ctI (spI st x.1)).flatten := rowsOf_map (cts := ctI) st.sp fun x => spI st x.1
    rw [e]
    exact this
  · rw [g2.2]; simp
theorem pgs_len (lv : List (Int × Int)) (id : Int) : (pgs lv id).length = (lv.filter fun x => decide (x.1 / 1024 = id)).length := by unfold pgs; rw [List.length_map]
theorem sum_one {l : List (Int × Int × Bool)} (hs : Asc l) (f g : Int → Nat) {k : Int} {x : Int × Bool} (hk : afind l k = some x) (hg : ∀ j, g j = f j + (if k = j then 1 else 0)) : (l.map fun x => g x.1).sum = (l.map fun x => f x.1).sum + 1 := by
  induction l with
  | nil => cases hk
  | cons y l ih =>
    rw [List.map_cons, List.map_cons, List.sum_cons, List.sum_cons, hg]
    rw [afind] at hk
    by_cases e : y.1 = k
    · rw [if_pos e.symm]
      have : (l.map fun x => g x.1) = l.map fun x => f x.1 := List.map_congr_left fun z hz => by
        have := hs.head hz
        rw [hg, if_neg (by omega)]; rfl
      rw [this]; omega
    · rw [if_neg e] at hk
      rw [if_neg (fun hh => e hh.symm), ih hs.tail hk]; omega
theorem pages_sum {sp : List (Int × Int × Bool)} (hs : Asc sp) : ∀ {lv : List (Int × Int)}, (∀ x ∈ lv, (afind sp (x.1 / 1024)).isSome = true) → (sp.map fun x => (pgs lv x.1).length).sum = lv.length
  | [], _ => by
    induction sp with
    | nil => rfl
    | cons y l ih => rw [List.map_cons, List.sum_cons, ih hs.tail (fun _ hx => absurd hx List.not_mem_nil)]; rfl
  | z :: lv, h => by
    obtain ⟨x, hx⟩ := Option.isSome_iff_exists.1 (h z (by simp))
    rw [sum_one hs (fun j => (pgs lv j).length) (fun j => (pgs (z :: lv) j).length) hx fun j => by
      simp only [pgs_len, List.filter_cons]
      by_cases e : z.1 / 1024 = j
      · rw [if_pos (decide_eq_true e), if_pos e, List.length_cons]
      · rw [if_neg (by simpa using e), if_neg e]; rfl, pages_sum hs fun y hy => h y (by simp [hy]), List.length_cons]
theorem sum_take {l : List Nat} {i : Nat} (h : i < l.length) : (l.take (i + 1)).sum = (l.take i).sum + l[i] := by rw [take_snoc h, List.sum_append]; simp
theorem sum_take_le (l : List Nat) (i : Nat) : (l.take i).sum ≤ l.sum := by
  have : l.sum = (l.take i).sum + (l.drop i).sum := by rw [← List.sum_append, List.take_append_drop]
  omega
theorem spI_at (st : Sta) {id : Int} {x : Int × Bool} (h : afind st.sp id = some x) : spI st id = (id, x.1, ((pgs st.lv id).length : Int), x.2, ()) := by unfold spI; rw [h]
theorem st_keys (h : StAt H a st) : ∃ G, state_State_Keys (some (a.c, 0)) H = some (((st.lv.length : Int), ()), G) ∧ Keep (fun _ => False) H G := by
  obtain ⟨s, K, e1, e2, e3⟩ := st_spaces h
  have hrow : Row K 4 s (rowsOf ctI (infos st)) := Row.grown e2.g
  have hsum := pages_sum h.w.sp h.w.own
  have hlen : (infos st).length = st.sp.length := List.length_map _
  have hmany := h.w.many
  have hfew := h.w.few
  let ns := st.sp.map fun x => (pgs st.lv x.1).length
  have hns : ns.length = st.sp.length := List.length_map _
  unfold state_State_Keys
  simp only [e1, Option.bind_some]
  obtain ⟨x, G, g1, rfl, g2⟩ := loop_rise (step := state_State_Keys.s1 ((s, ()), K)) st.sp.length (fun i y G => y = (((ns.take i).sum : Int), (i : Int), ()) ∧ Keep (fun _ => False) K G) (fun x G => x = (((st.lv.length : Nat) : Int), ()) ∧ Keep (fun _ => False) K G)
    (fun i y G hi ⟨hy, hk⟩ => by
      subst hy
      obtain ⟨b, o, r1, r2, _⟩ := Row.rd (cts := ctI) (rows := infos st) (hrow.keep hk fun _ _ _ => id) (i := i) (by omega) (by decide)
      have r1 : Sl.at 4 s (i : Int) = some (b, o) := r1
      have hd : decide ((i : Int) < (s.len : Int)) = true := decide_eq_true (by rw [e3]; omega)
      have hx : afind st.sp st.sp[i].1 = some st.sp[i].2 := h.w.sp.find (List.getElem_mem (by omega))
      have hr : (infos st)[i]'(by omega) = (st.sp[i].1, st.sp[i].2.1, ((pgs st.lv st.sp[i].1).length : Int), st.sp[i].2.2, ()) := by
        exact (List.getElem_map (fun x : Int × Int × Bool => (spI st x.1 : Tup ctI)) (l := st.sp)).trans (spI_at st hx)
      rw [hr] at r2
      have h1 := sum_take (l := ns) (i := i) (by omega)
      have h2 := sum_take_le ns (i + 1)
      have h3 : ns[i]'(by omega) = (pgs st.lv st.sp[i].1).length := by simp only [ns, List.getElem_map]
      refine .inl ⟨(((ns.take (i + 1)).sum : Int), ((i + 1 : Nat) : Int), ()), G ++ [.cells [.int .i64 st.sp[i].1, .int .i64 st.sp[i].2.1, .int .i64 ((pgs st.lv st.sp[i].1).length : Int), .bool st.sp[i].2.2] .exact], ?_, rfl, hk.trans (Keep.app _ _ _)⟩
      unfold state_State_Keys.s1
      simp only [hd, r1, cond_true, Option.bind_some]
      refine (bind_to r2).trans ?_
      simp only [Option.bind_some, Option.map_some, cond_true, cond_false, List.append_assoc, List.cons_append, List.nil_append, List.length_append, List.length_cons, List.length_nil, Nat.zero_add, rd_t0, rd_t1, rdI_t0, rdI_t1, rdB_t0, rdB_t1, rdM_t0, rdM_t1, rd_c1, rdI_c1, rdB_c1, rdM_c1, rdI_c0, rdB_c0, rdM_c0, wr_t0, wr_t1, wr_c0, wr_c1, setL, List.set, List.getElem?_cons_zero, List.getElem?_cons_succ, un_i, un_b, un_m, un_s, Nat.le_refl, rd_iiib, rd_iiiiii, rd_ibm, rd_iii, rd_iib, rd_ii, rd_3312, rd_iiii, rd_si, rd_33121, rd_33121i, slRow_t0, slRow_t1, sl_c0, sl_c1]
      rw [wrap_succ (by omega), wrap_i64 (by omega) (by have : ns.sum = st.lv.length := hsum; omega)]
      rw [h1, h3]; rfl)
    (fun y G ⟨hy, hk⟩ => by
      subst hy
      have hd : decide ((st.sp.length : Int) < (s.len : Int)) = false := decide_eq_false (by rw [e3]; omega)
      refine ⟨_, G, ?_, rfl, hk⟩
      unfold state_State_Keys.s1
      simp only [hd, cond_false]
      rw [← hns, List.take_length, show ns.sum = st.lv.length from hsum]) (y := (0, 0, ())) (H := K) ⟨rfl, Keep.refl _ _⟩
  refine ⟨G, ?_, (e2.calm rfl).trans g2⟩
  rw [g1]; rfl
end
end Ev
