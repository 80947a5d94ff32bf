/- The plain state in the heap: four slices; a leaf is put. -/
import Derived.Test.YtfmefnejaocopaaSRfP
import Derived.Test.YtfmefnejaocopaaGRef08
import Derived.Test.YtfmefnejaocopaaSStG
set_option linter.unusedSimpArgs false
set_option linter.unusedVariables false
namespace Ev
open Go (IntKind)

theorem rowsOf_append' {cts : List CT} (l l' : List (Tup cts)) : rowsOf cts (l ++ l') = rowsOf cts l ++ rowsOf cts l' := by simp [rowsOf]
abbrev ctP : List CT := [.int .i64, .int .i64, .bool]
abbrev ctL : List CT := [.int .i64, .int .i64, .int .i64]
abbrev ctW : List CT := [.int .i64, .int .i64]
abbrev RfV := Sl × Sl × Sl × Sl × Unit
def rsp (x : Int × Int × Bool) : Tup ctP := (x.1, x.2.1, x.2.2, ())
def rlv (x : Int × Int) : Tup ctL := (x.1 / 1024, x.1 % 1024, x.2, ())
def rwn (x : Int × Int) : Tup ctW := (x.1, x.2, ())
structure RfAt (G : Heap) (v : RfV) (st : Sta) : Prop where
  w : SaW st
  sp : Row G 3 v.1 (rowsOf ctP (st.sp.map rsp))
  lv : Row G 3 v.2.1 (rowsOf ctL (st.lv.map rlv))
  bd : Row G 1 v.2.2.1 (intC (st.bd.map Prod.fst))
  wn : Row G 2 v.2.2.2.1 (rowsOf ctW (st.wn.map rwn))
  spl : v.1.len = st.sp.length
  lvl : v.2.1.len = st.lv.length
  bdl : v.2.2.1.len = st.bd.length
  wnl : v.2.2.2.1.len = st.wn.length
/-- Its blocks. -/
def blkV (v : RfV) (b : Nat) : Prop := (∃ o, v.1.p = some (b, o)) ∨ (∃ o, v.2.1.p = some (b, o)) ∨ (∃ o, v.2.2.1.p = some (b, o)) ∨ ∃ o, v.2.2.2.1.p = some (b, o)
section
variable {H G : Heap} {v v' : RfV} {st st' : Sta}
theorem RfAt.keep (h : RfAt H v st) {F : Nat → Prop} (k : Keep F H G) (hF : ∀ b, blkV v b → ¬ F b) : RfAt G v st :=
  ⟨h.w, h.sp.keep k fun b o hp => hF b (.inl ⟨o, hp⟩), h.lv.keep k fun b o hp => hF b (.inr (.inl ⟨o, hp⟩)), h.bd.keep k fun b o hp => hF b (.inr (.inr (.inl ⟨o, hp⟩))), h.wn.keep k fun b o hp => hF b (.inr (.inr (.inr ⟨o, hp⟩))), h.spl, h.lvl, h.bdl, h.wnl⟩
theorem RfAt.lt (h : RfAt H v st) {b : Nat} (hb : blkV v b) : b < H.length := by
  rcases hb with ⟨o, hp⟩ | ⟨o, hp⟩ | ⟨o, hp⟩ | ⟨o, hp⟩
  · exact h.sp.lt hp
  · exact h.lv.lt hp
  · exact h.bd.lt hp
  · exact h.wn.lt hp
/-- What has come of it. -/
structure RRes (H : Heap) (v : RfV) (G : Heap) (v' : RfV) (st' : Sta) : Prop where
  s : RfAt G v' st'
  k : Keep (fun _ => False) H G
  n : ∀ b, blkV v' b → blkV v b ∨ H.length ≤ b
def vC (v : RfV) : List C := [.sl 3 v.1, .sl 3 v.2.1, .sl 1 v.2.2.1, .sl 2 v.2.2.2.1]
/-- The box of a state, and the box of what is told. -/
theorem fin4 {b1 b2 : Nat} {cs : List C} (h1 : b1 < G.length) (h2 : G[b2]? = some (.cells cs .exact)) (hl : cs.length = 4) (hne : b1 ≠ b2) (v : RfV) :
    rd (G.set b1 (.cells (vC v) .exact)) (.agg [.sl 3, .sl 3, .sl 1, .sl 2]) b1 0 = (some v : Option RfV) ∧
    wr (G.set b1 (.cells (vC v) .exact)) b2 0 [.sl 3 v.1, .sl 3 v.2.1, .sl 1 v.2.2.1, .sl 2 v.2.2.2.1] = some ((G.set b1 (.cells (vC v) .exact)).set b2 (.cells (vC v) .exact)) ∧
    rd ((G.set b1 (.cells (vC v) .exact)).set b2 (.cells (vC v) .exact)) (.agg [.sl 3, .sl 3, .sl 1, .sl 2]) b2 0 = (some v : Option RfV) := by
  have g2 := get_lt h2
  refine ⟨rd_agg_of (set_get h1) (by simp [vC]) rfl, ?_, rd_agg_of (set_get (by simpa using g2)) (by simp [vC]) rfl⟩
  have := wr_of (H := G.set b1 (.cells (vC v) .exact)) (b := b2) (o := 0) (cs := cs) (bk := .exact) (new := [.sl 3 v.1, .sl 3 v.2.1, .sl 1 v.2.2.1, .sl 2 v.2.2.2.1]) (by rw [set_get' hne]; exact h2) (by decide) (by rw [hl]; exact Nat.le_refl 4)
  rw [this]
  obtain ⟨c0, c1, c2, c3, rfl⟩ : ∃ c0 c1 c2 c3, cs = [c0, c1, c2, c3] := by
    match cs, hl with
    | [c0, c1, c2, c3], _ => exact ⟨c0, c1, c2, c3, rfl⟩
  rfl
theorem RfAt.box (h : RfAt H v st) (t : Heap) (ht : t[0]? = some (.cells (vC v) .exact)) {s0 : Sl} {es : Nat} {s : Sl} {cs : List C} (hs0 : ∀ a, s0.p = some a → H.length < a.1) (hE : Em (H ++ t) s0 es G s cs) :
    RfAt G v st ∧ G[H.length]? = some (.cells (vC v) .exact) := by
  have ho : ∀ b, b ≤ H.length → ∀ o, s0.p ≠ some (b, o) := fun b hb o hp => by have := hs0 _ hp; simp only at this; omega
  exact ⟨(h.keep (Keep.app (fun _ => False) H t) fun _ _ hf => hf).keep hE.k fun b hb ⟨o, hp⟩ => ho b (by have := h.lt hb; omega) o hp, hE.get (by rw [tl_get0]; exact ht) (ho _ (Nat.le_refl _))⟩
theorem outI_len {α : Type} {l : List (Int × α)} (h : Asc l) (k : Int) (v : α) : (outI k v l).length ≤ l.length + 1 := by
  unfold outI
  split
  · rw [ains_length h]; split <;> omega
  · omega
theorem tup3 {a b c d e : Int} (h1 : a = c) (h2 : b = d) : ((a, b, e, ()) : Tup ctL) = (c, d, e, ()) := by subst h1; subst h2; rfl
/-- The second half of a round: the leaf that stands there, unless it is the same page's. -/
def withB (x1l g : Nat) (i : Int) (p24 : (Sl × Bool × Unit) × Heap) : Option (((Sl × Bool × Int × Unit) ⊕ (Sl × Bool × Unit)) × Heap) :=
 ((rdI .i64 p24.2 g 0).bind fun (v25 : Int) => (rdI .i64 p24.2 x1l 0).bind fun (v26 : Int) =>
  cond (!decide (v25 = v26)) (some ((true, ()), p24.2)) ((rdI .i64 p24.2 g 1).bind fun (v27 : Int) => (rdI .i64 p24.2 x1l 1).bind fun (v28 : Int) => some (((!decide (v27 = v28)), ()), p24.2)) : Option ((Bool × Unit) × Heap)).bind fun (p29 : (Bool × Unit) × Heap) =>
 cond p29.1.1 (Option.bind (α := (Int × Int × Int × Unit)) (rd p29.2 (.agg [.int .i64, .int .i64, .int .i64]) g 0) fun (v30 : (Int × Int × Int × Unit)) =>
  (appS (p29.2 ++ [.cells [.int .i64 v30.1, .int .i64 v30.2.1, .int .i64 v30.2.2.1] .exact]) 3 24 p24.1.1 1 [.int .i64 v30.1, .int .i64 v30.2.1, .int .i64 v30.2.2.1]).bind fun (p33 : (Sl × Heap)) =>
  some (Sum.inl (p33.1, p24.1.2.1, i, ()), p33.2)) (some (Sum.inl (p24.1.1, p24.1.2.1, i, ()), p29.2))
theorem withB_eq {K G2 : Heap} {s0 s2 : Sl} {cs : List C} {x1l g : Nat} {i : Int} {put : Bool} {a b c id p pl : Int} (hE : Em K s0 3 G2 s2 cs) (hg : G2[g]? = some (.cells [.int .i64 a, .int .i64 b, .int .i64 c] .exact)) (hl : G2[x1l]? = some (.cells [.int .i64 id, .int .i64 p, .int .i64 pl] .exact)) (hn : s2.len ≤ 100000) :
    ∃ s' G', withB x1l g i ((s2, put, ()), G2) = some (.inl (s', put, i, ()), G') ∧ Em K s0 3 G' s' (cs ++ if a = id ∧ b = p then [] else [.int .i64 a, .int .i64 b, .int .i64 c]) ∧ s'.len = s2.len + if a = id ∧ b = p then 0 else 1 := by
  obtain ⟨s', G', e1, e2, e3, _⟩ := hE.add [.cells [.int .i64 a, .int .i64 b, .int .i64 c] .exact] (by decide) (new := [.int .i64 a, .int .i64 b, .int .i64 c]) (bytes := 24) rfl (by omega) (by omega)
  have hr : rd G2 (.agg [.int .i64, .int .i64, .int .i64]) g 0 = (some (a, b, c, ()) : Option (Int × Int × Int × Unit)) := rd_agg_of hg (by simp) rfl
  unfold withB
  simp only [rdI_of hg (o := 0) rfl, rdI_of hg (o := 1) rfl, rdI_of hl (o := 0) rfl, rdI_of hl (o := 1) rfl, Option.bind_some]
  by_cases h1 : a = id
  · simp only [decide_eq_true h1, Bool.not_true, cond_false, Option.bind_some]
    by_cases h2 : b = p
    · simp only [decide_eq_true h2, Bool.not_true, cond_false]
      rw [if_pos ⟨h1, h2⟩, if_pos ⟨h1, h2⟩, List.append_nil]
      exact ⟨s2, G2, rfl, hE, rfl⟩
    · simp only [decide_eq_false h2, Bool.not_false, cond_true, hr, Option.bind_some, e1]
      rw [if_neg (fun hh => h2 hh.2), if_neg (fun hh => h2 hh.2)]
      exact ⟨s', G', rfl, e2, e3⟩
  · simp only [decide_eq_false h1, Bool.not_false, cond_true, hr, Option.bind_some, e1]
    rw [if_neg (fun hh => h1 hh.1), if_neg (fun hh => h1 hh.1)]
    exact ⟨s', G', rfl, e2, e3⟩
/-- One round of putting a leaf in. -/
theorem with_step (h : RfAt H v st) {id p pl : Int} (hp : 0 ≤ p ∧ p < 1024) {H1 : Heap} (hH1 : H1.length = H.length + 1) {t : Heap} (ht : t[0]? = some (.cells (vC v) .exact)) (ht1 : t[1]? = some (.cells [.int .i64 id, .int .i64 p, .int .i64 pl] .exact)) {s0 : Sl} (hs0 : ∀ a, s0.p = some a → H.length + 1 < a.1)
    {i : Nat} (hi : i < st.lv.length) {s : Sl} (hE : Em (H ++ t) s0 3 G s (rowsOf ctL ((outI (id * 1024 + p) pl (st.lv.take i)).map rlv))) (hn : s.len = (outI (id * 1024 + p) pl (st.lv.take i)).length) :
    ∃ s' G', ref08_State_with.s1 H H1 (s, putI (id * 1024 + p) (st.lv.take i), (i : Int), ()) G = some (.inl (s', putI (id * 1024 + p) (st.lv.take (i + 1)), ((i + 1 : Nat) : Int), ()), G') ∧
      Em (H ++ t) s0 3 G' s' (rowsOf ctL ((outI (id * 1024 + p) pl (st.lv.take (i + 1))).map rlv)) ∧ s'.len = (outI (id * 1024 + p) pl (st.lv.take (i + 1))).length := by
  obtain ⟨hG, hbox⟩ := h.box t ht (fun a ha => by have := hs0 a ha; omega) hE
  have hleaf : G[H.length + 1]? = some (.cells [.int .i64 id, .int .i64 p, .int .i64 pl] .exact) := hE.get (by rw [tl_get1]; exact ht1) fun o ho => by have := hs0 _ ho; simp only at this; omega
  have hlm : (st.lv.map rlv).length = st.lv.length := List.length_map _
  obtain ⟨b0, o0, r1, r2, _⟩ := Row.rd (cts := ctL) (rows := st.lv.map rlv) hG.lv (i := i) (by omega) (by decide)
  have r1 : Sl.at 3 v.2.1 (i : Int) = some (b0, o0) := r1
  have hx : (st.lv.map rlv)[i]'(by omega) = rlv st.lv[i] := List.getElem_map _
  rw [hx] at r2
  obtain ⟨x, hxx⟩ : ∃ x, x = st.lv[i] := ⟨_, rfl⟩
  have htk := take_snoc hi
  rw [← hxx] at htk r2
  have hmany := h.w.many
  obtain ⟨u1, u2⟩ := outI_snoc (k := id * 1024 + p) pl (l := st.lv.take i) (x := x) (by rw [← htk]; exact h.w.lv.sub (List.take_sublist _ _))
  have hol := outI_len (h.w.lv.sub (List.take_sublist i st.lv)) (id * 1024 + p) pl
  rw [List.length_take] at hol
  rw [htk, u1, u2]
  generalize outI (id * 1024 + p) pl (st.lv.take i) = out at hE hn hol ⊢
  generalize putI (id * 1024 + p) (st.lv.take i) = put at ⊢
  obtain ⟨new, hnew⟩ : ∃ new, new = out ++ (if put = false ∧ id * 1024 + p ≤ x.1 then [(id * 1024 + p, pl)] else []) ++ (if x.1 = id * 1024 + p then [] else [x]) := ⟨_, rfl⟩
  rw [← hnew]
  have r2' : rd G (.agg [.int .i64, .int .i64, .int .i64]) b0 o0 = (some (x.1 / 1024, x.1 % 1024, x.2, ()) : Option (Int × Int × Int × Unit)) := r2
  have hd : decide ((i : Int) < (v.2.1.len : Int)) = true := decide_eq_true (by rw [h.lvl]; omega)
  have hv : rdSl 3 G H.length 1 = some v.2.1 := rdSl_of hbox rfl
  have hGl : H.length + 1 < G.length := get_lt hleaf
  have l0 : ∀ (u : Heap), rdI .i64 (G ++ u) (H.length + 1) 0 = some id := fun u => rdI_of (by rw [List.getElem?_append_left hGl]; exact hleaf) rfl
  have l1 : ∀ (u : Heap), rdI .i64 (G ++ u) (H.length + 1) 1 = some p := fun u => rdI_of (by rw [List.getElem?_append_left hGl]; exact hleaf) rfl
  have l2 : ∀ (u : Heap), rd (G ++ u) (.agg [.int .i64, .int .i64, .int .i64]) (H.length + 1) 0 = (some (id, p, pl, ()) : Option (Int × Int × Int × Unit)) := fun u => rd_agg_of (by rw [List.getElem?_append_left hGl]; exact hleaf) (by simp) rfl
  unfold ref08_State_with.s1
  simp only [hv, hd, cond_true, Option.bind_some, r1]
  simp only [r2', hH1, Option.bind_some, Option.map_some, cond_true, cond_false, List.append_assoc, List.cons_append, List.nil_append, List.length_append, List.length_cons, List.length_nil, Nat.zero_add, rd_t0, rd_t1, rdI_t0, rdI_t1, rdB_t0, rdB_t1, rdM_t0, rdM_t1, rd_c1, rdI_c1, rdB_c1, rdM_c1, rdI_c0, rdB_c0, rdM_c0, wr_t0, wr_t1, wr_c0, wr_c1, setL, List.set, List.getElem?_cons_zero, List.getElem?_cons_succ, un_i, un_b, un_m, un_s, un_sl1, un_sl2, un_sl3, Nat.le_refl, rd_iiib, rd_iiiiii, rd_ibm, rd_iii, rd_iib, rd_ii, rd_3312, rd_iiii, rd_si, rd_33121, rd_33121i, slRow_t0, slRow_t1, sl_c0, sl_c1]
  simp only [l0, l1, l2, Option.bind_some]
  have hk : (if x.1 = id * 1024 + p then ([] : List (Int × Int)) else [x]) = if x.1 / 1024 = id ∧ x.1 % 1024 = p then [] else [x] := by
    by_cases e : x.1 = id * 1024 + p
    · rw [if_pos e, if_pos (by omega)]
    · rw [if_neg e, if_neg (by omega)]
  have hrows : ∀ (c : Bool), rowsOf ctL ((out ++ (if c = true then [(id * 1024 + p, pl)] else []) ++ if x.1 / 1024 = id ∧ x.1 % 1024 = p then [] else [x]).map rlv) = (rowsOf ctL (out.map rlv) ++ if c = true then [.int .i64 id, .int .i64 p, .int .i64 pl] else []) ++ if x.1 / 1024 = id ∧ x.1 % 1024 = p then [] else [.int .i64 (x.1 / 1024), .int .i64 (x.1 % 1024), .int .i64 x.2] := fun c => by
    rw [List.map_append, List.map_append, rowsOf_append', rowsOf_append']
    congr 1
    · congr 1
      cases c
      · rfl
      · show rowsOf ctL [rlv (id * 1024 + p, pl)] = _
        rw [show rlv (id * 1024 + p, pl) = (id, p, pl, ()) from tup3 (key_div id p hp.1 hp.2).1 (key_div id p hp.1 hp.2).2]; rfl
    · by_cases e : x.1 / 1024 = id ∧ x.1 % 1024 = p
      · rw [if_pos e, if_pos e]; rfl
      · rw [if_neg e, if_neg e]; rfl
  have hsl : ∀ b, G.length ≤ b → ∀ o, s.p ≠ some (b, o) := fun b hb o hp => by have := hE.g.lt hp; simp only at this; omega
  have hleafs : ∀ o, s.p ≠ some (H.length + 1, o) := fun o hp => by
    rcases hE.o _ hp with hh | ⟨o', hh⟩
    · have : t.length ≥ 2 := by have := (List.getElem?_eq_some_iff.1 ht1).1; omega
      simp only [List.length_append] at hh; omega
    · have := hs0 _ hh; simp only at this; omega
  obtain ⟨sT, GT, t1, t2, t3, t4⟩ := hE.add [.cells [.int .i64 (x.1 / 1024), .int .i64 (x.1 % 1024), .int .i64 x.2] .exact, .cells [.int .i64 id, .int .i64 p, .int .i64 pl] .exact] (by decide) (new := [.int .i64 id, .int .i64 p, .int .i64 pl]) (bytes := 24) rfl (by omega) (by omega)
  have t5 : GT[G.length]? = some (.cells [.int .i64 (x.1 / 1024), .int .i64 (x.1 % 1024), .int .i64 x.2] .exact) := by rw [t4 _ (by simp) (hsl _ (Nat.le_refl _)), tl_get0]; rfl
  have t6 : GT[H.length + 1]? = some (.cells [.int .i64 id, .int .i64 p, .int .i64 pl] .exact) := by rw [t4 _ (by simp; omega) hleafs, List.getElem?_append_left hGl]; exact hleaf
  obtain ⟨sT', GT', w1, w2, w3⟩ := withB_eq (put := true) (i := ((i + 1 : Nat) : Int)) t2 t5 t6 (by omega)
  have hEF := hE.push [.cells [.int .i64 (x.1 / 1024), .int .i64 (x.1 % 1024), .int .i64 x.2] .exact]
  obtain ⟨sF', GF', z1, z2, z3⟩ := withB_eq (put := put) (i := ((i + 1 : Nat) : Int)) (x1l := H.length + 1) (g := G.length) (a := x.1 / 1024) (b := x.1 % 1024) (c := x.2) (id := id) (p := p) (pl := pl) hEF (by rw [tl_get0]; rfl) (by rw [List.getElem?_append_left hGl]; exact hleaf) (by omega)
  have hlen : ∀ c : Bool, (out ++ (if c = true then [(id * 1024 + p, pl)] else []) ++ if x.1 / 1024 = id ∧ x.1 % 1024 = p then [] else [x]).length = out.length + (if c = true then 1 else 0) + if x.1 / 1024 = id ∧ x.1 % 1024 = p then 0 else 1 := fun c => by
    rw [List.length_append, List.length_append]
    congr 1
    · cases c <;> rfl
    · split <;> rfl
  have hT : put = false → id * 1024 + p ≤ x.1 → ∃ s' G', withB (H.length + 1) G.length ((i + 1 : Nat) : Int) ((sT, true, ()), GT) = some (.inl (s', (put || decide (id * 1024 + p ≤ x.1)), ((i + 1 : Nat) : Int), ()), G') ∧
      Em (H ++ t) s0 3 G' s' (rowsOf ctL (new.map rlv)) ∧ s'.len = new.length := fun e1 e2 => by
    have h1 := hrows true
    have h2 := hlen true
    rw [hnew, if_pos ⟨e1, e2⟩, hk, e1, decide_eq_true e2]
    rw [if_pos rfl] at h1 h2
    rw [h1, h2, if_pos rfl, if_pos rfl]
    exact ⟨sT', GT', w1, w2, by omega⟩
  have hF : ¬ (put = false ∧ id * 1024 + p ≤ x.1) → ∃ s' G', withB (H.length + 1) G.length ((i + 1 : Nat) : Int) ((s, put, ()), G ++ [.cells [.int .i64 (x.1 / 1024), .int .i64 (x.1 % 1024), .int .i64 x.2] .exact]) = some (.inl (s', (put || decide (id * 1024 + p ≤ x.1)), ((i + 1 : Nat) : Int), ()), G') ∧
      Em (H ++ t) s0 3 G' s' (rowsOf ctL (new.map rlv)) ∧ s'.len = new.length := fun e => by
    have h1 := hrows false
    have h2 := hlen false
    have e3 : (put || decide (id * 1024 + p ≤ x.1)) = put := by
      cases put with
      | true => rfl
      | false => rw [decide_eq_false (fun hh => e ⟨rfl, hh⟩)]; rfl
    rw [hnew, if_neg e, hk, e3]
    have nf : ¬ false = true := by decide
    rw [if_neg nf, if_neg nf] at h1 h2
    rw [h1, h2, List.append_nil]
    exact ⟨sF', GF', z1, z2, by omega⟩
  simp only [wrap_succ (show i < 9223372036854775807 by omega)]
  cases hput : put with
  | true =>
    rw [hput] at hF
    obtain ⟨s', G', y1, y2⟩ := hF (fun hh => by cases hh.1)
    simp only [Bool.not_true, cond_false, Option.bind_some]
    exact ⟨s', G', y1, y2⟩
  | false =>
    rw [hput] at hF hT
    by_cases h1 : id < x.1 / 1024
    · obtain ⟨s', G', y1, y2⟩ := hT rfl (by omega)
      simp only [decide_eq_true h1, Bool.not_false, cond_true, Option.bind_some, l2, Option.bind_some, Option.map_some, cond_true, cond_false, List.append_assoc, List.cons_append, List.nil_append, List.length_append, List.length_cons, List.length_nil, Nat.zero_add, rd_t0, rd_t1, rdI_t0, rdI_t1, rdB_t0, rdB_t1, rdM_t0, rdM_t1, rd_c1, rdI_c1, rdB_c1, rdM_c1, rdI_c0, rdB_c0, rdM_c0, wr_t0, wr_t1, wr_c0, wr_c1, setL, List.set, List.getElem?_cons_zero, List.getElem?_cons_succ, un_i, un_b, un_m, un_s, un_sl1, un_sl2, un_sl3, Nat.le_refl, rd_iiib, rd_iiiiii, rd_ibm, rd_iii, rd_iib, rd_ii, rd_3312, rd_iiii, rd_si, rd_33121, rd_33121i, slRow_t0, slRow_t1, sl_c0, sl_c1, t1]
      exact ⟨s', G', y1, y2⟩
    · by_cases h2 : x.1 / 1024 = id
      · by_cases h3 : p ≤ x.1 % 1024
        · obtain ⟨s', G', y1, y2⟩ := hT rfl (by omega)
          simp only [decide_eq_false h1, decide_eq_true h2, decide_eq_true h3, Bool.not_false, cond_true, cond_false, Option.bind_some, l2, Option.bind_some, Option.map_some, cond_true, cond_false, List.append_assoc, List.cons_append, List.nil_append, List.length_append, List.length_cons, List.length_nil, Nat.zero_add, rd_t0, rd_t1, rdI_t0, rdI_t1, rdB_t0, rdB_t1, rdM_t0, rdM_t1, rd_c1, rdI_c1, rdB_c1, rdM_c1, rdI_c0, rdB_c0, rdM_c0, wr_t0, wr_t1, wr_c0, wr_c1, setL, List.set, List.getElem?_cons_zero, List.getElem?_cons_succ, un_i, un_b, un_m, un_s, un_sl1, un_sl2, un_sl3, Nat.le_refl, rd_iiib, rd_iiiiii, rd_ibm, rd_iii, rd_iib, rd_ii, rd_3312, rd_iiii, rd_si, rd_33121, rd_33121i, slRow_t0, slRow_t1, sl_c0, sl_c1, t1]
          exact ⟨s', G', y1, y2⟩
        · obtain ⟨s', G', y1, y2⟩ := hF (fun hh => h3 (by have := hh.2; omega))
          simp only [decide_eq_false h1, decide_eq_true h2, decide_eq_false h3, Bool.not_false, cond_true, cond_false, Option.bind_some]
          exact ⟨s', G', y1, y2⟩
      · obtain ⟨s', G', y1, y2⟩ := hF (fun hh => by have := hh.2; omega)
        simp only [decide_eq_false h1, decide_eq_false h2, Bool.not_false, cond_true, cond_false, Option.bind_some]
        exact ⟨s', G', y1, y2⟩
/-- What a method leaves, once the boxes are written. -/
theorem rf_done (h : RfAt H v st) {t : Heap} {r : Nat} (hr : 0 < r) (hrt : r < t.length) {s0 sF : Sl} (hs0 : ∀ a, s0.p = some a → H.length + r < a.1) {es : Nat} {GF : Heap} {cs : List C} (hE : Em (H ++ t) s0 es GF sF cs)
    (hv : RfAt GF v' st') (hb : ∀ b, blkV v' b → blkV v b ∨ ∃ o, sF.p = some (b, o)) (x y : Blk) : RRes H v ((GF.set H.length x).set (H.length + r) y) v' st' := by
  have hoff : ∀ b, blkV v' b → b ≠ H.length ∧ b ≠ H.length + r ∧ (blkV v b ∨ H.length ≤ b) := fun b hbb => by
    rcases hb b hbb with hv | ⟨o, ho⟩
    · have := h.lt hv
      exact ⟨by omega, by omega, .inl hv⟩
    · rcases hE.o _ ho with hh | ⟨o', hh⟩
      · simp only [List.length_append] at hh
        exact ⟨by omega, by omega, .inr (by omega)⟩
      · have := hs0 _ hh
        simp only at this
        exact ⟨by omega, by omega, .inr (by omega)⟩
  refine ⟨hv.keep (set2_keep GF H.length (H.length + r) x y) fun b hbb hh => ?_, ⟨?_, fun b hbb _ => ?_⟩, fun b hbb => (hoff b hbb).2.2⟩
  · have := hoff b hbb
    omega
  · have := hE.k.len
    simp only [List.length_set, List.length_append] at this ⊢
    omega
  · rw [set_get' (by omega), set_get' (by omega), hE.k.same b (by simp only [List.length_append]; omega) fun ⟨o, ho⟩ => by have := hs0 _ ho; simp only at this; omega, List.getElem?_append_left hbb]
theorem rf_with (h : RfAt H v st) {id p pl : Int} (hp : 0 ≤ p ∧ p < 1024) {x : Int × Bool} (hx : afind st.sp id = some x) : ∃ v' G, ref08_State_with v (id, p, pl, ()) H = some ((v', ()), G) ∧ RRes H v G v' ⟨st.sp, ains st.lv (id * 1024 + p) pl, st.bd, st.wn⟩ := by
  have hmany := h.w.many
  generalize ht : [Blk.cells (vC v) .exact, .cells [.int .i64 id, .int .i64 p, .int .i64 pl] .exact, .cells [.sl 3 Sl.nil, .sl 3 Sl.nil, .sl 1 Sl.nil, .sl 2 Sl.nil] .exact, .cells [] .exact] = t
  have ht0 : t[0]? = some (.cells (vC v) .exact) := by rw [← ht]; rfl
  have ht1 : t[1]? = some (.cells [.int .i64 id, .int .i64 p, .int .i64 pl] .exact) := by rw [← ht]; rfl
  have ht2 : t[2]? = some (.cells [.sl 3 Sl.nil, .sl 3 Sl.nil, .sl 1 Sl.nil, .sl 2 Sl.nil] .exact) := by rw [← ht]; rfl
  have ht3 : t[3]? = some (.cells [] .exact) := by rw [← ht]; rfl
  have htl : t.length = 4 := by rw [← ht]; rfl
  have hs0 : ∀ a, (⟨some (H.length + 3, 0), 0, 0⟩ : Sl).p = some a → H.length + 2 < a.1 := fun a ha => by cases ha; simp only; omega
  have h0 : Em (H ++ t) ⟨some (H.length + 3, 0), 0, 0⟩ 3 (H ++ t) ⟨some (H.length + 3, 0), 0, 0⟩ [] := Em.start ⟨rfl, rfl, fun hh => (by cases hh), fun a ha => by cases ha; exact ⟨rfl, .inr (by rw [tl_get1]; exact ht3)⟩⟩
  obtain ⟨s, G, g1, g2, g3⟩ := emitI (cts := ctL) (step := ref08_State_with.s1 H (H ++ [.cells (vC v) .exact])) st.lv.length (fun i => (outI (id * 1024 + p) pl (st.lv.take i)).map rlv) (fun i => putI (id * 1024 + p) (st.lv.take i)) h0 rfl rfl rfl
    (fun i hi s G hE hn => by
      obtain ⟨s', G', r1, r2, r3⟩ := with_step h hp (pl := pl) (H1 := H ++ [.cells (vC v) .exact]) (by simp) ht0 ht1 (fun a ha => by have := hs0 a ha; omega) hi hE (by rw [hn, List.length_map])
      exact ⟨s', G', r1, r2, by rw [r3, List.length_map]⟩)
    (fun s G hE => by
      obtain ⟨_, hbox⟩ := h.box t ht0 (fun a ha => by have := hs0 a ha; omega) hE
      have hv : rdSl 3 G H.length 1 = some v.2.1 := rdSl_of hbox rfl
      unfold ref08_State_with.s1
      simp only [hv, Option.bind_some, decide_eq_false (show ¬ (st.lv.length : Int) < (v.2.1.len : Int) by rw [h.lvl]; omega), cond_false])
  rw [List.take_length] at g1 g2 g3
  have done : ∀ sF GF, Em (H ++ t) ⟨some (H.length + 3, 0), 0, 0⟩ 3 GF sF (rowsOf ctL ((ains st.lv (id * 1024 + p) pl).map rlv)) → sF.len = (ains st.lv (id * 1024 + p) pl).length →
      ∃ v' G', ((wr GF H.length 1 [.sl 3 sF]).bind fun (H39 : Heap) => Option.bind (α := RfV) (rd H39 (.agg [.sl 3, .sl 3, .sl 1, .sl 2]) H.length 0) fun v40 => (wr H39 (H.length + 2) 0 [.sl 3 v40.1, .sl 3 v40.2.1, .sl 1 v40.2.2.1, .sl 2 v40.2.2.2.1]).bind fun (H41 : Heap) =>
        Option.bind (α := RfV) (rd H41 (.agg [.sl 3, .sl 3, .sl 1, .sl 2]) (H.length + 2) 0) fun v42 => some ((v42, ()), H41)) = some ((v', ()), G') ∧ RRes H v G' v' ⟨st.sp, ains st.lv (id * 1024 + p) pl, st.bd, st.wn⟩ := fun sF GF hE hl => by
    obtain ⟨hG, hbox⟩ := h.box t ht0 (fun a ha => by have := hs0 a ha; omega) hE
    have hres : GF[H.length + 2]? = some (.cells [.sl 3 Sl.nil, .sl 3 Sl.nil, .sl 1 Sl.nil, .sl 2 Sl.nil] .exact) := hE.get (by rw [tl_get1]; exact ht2) fun o ho => by have := hs0 _ ho; simp only at this; omega
    obtain ⟨f1, f2, f3⟩ := fin4 (G := GF) (get_lt hbox) hres rfl (by omega) (v.1, sF, v.2.2.1, v.2.2.2.1, ())
    have hw : wr GF H.length 1 [.sl 3 sF] = some (GF.set H.length (.cells (vC (v.1, sF, v.2.2.1, v.2.2.2.1, ())) .exact)) := wr1_of hbox (by decide) (by simp [vC])
    refine ⟨(v.1, sF, v.2.2.1, v.2.2.2.1, ()), _, (bind_to hw).trans ((bind_to f1).trans ((bind_to f2).trans ((bind_to f3).trans rfl))), rf_done (v' := (v.1, sF, v.2.2.1, v.2.2.2.1, ())) h (by omega) (by omega) hs0 hE ⟨h.w.key hx hp pl, hG.sp, Row.grown hE.g, hG.bd, hG.wn, hG.spl, hl, hG.bdl, hG.wnl⟩ (fun b hb => ?_) _ _⟩
    rcases hb with hb | hb | hb | hb
    · exact .inl (.inl hb)
    · exact .inr hb
    · exact .inl (.inr (.inr (.inl hb)))
    · exact .inl (.inr (.inr (.inr hb)))
  have hall := outI_all (id * 1024 + p) pl st.lv
  subst ht
  unfold ref08_State_with
  simp only [List.append_assoc, List.cons_append, List.nil_append, List.length_append, List.length_cons, List.length_nil, Nat.zero_add]
  cases hput : putI (id * 1024 + p) st.lv with
  | true =>
    rw [hput] at g1 hall
    rw [if_neg (by decide), List.append_nil] at hall
    rw [hall] at g2 g3
    rw [List.length_map] at g3
    obtain ⟨v', G', d1, d2⟩ := done s G g2 g3
    exact ⟨v', G', (bind_to g1).trans d1, d2⟩
  | false =>
    rw [hput] at g1 hall
    rw [if_pos rfl] at hall
    have hleaf : G[H.length + 1]? = some (.cells [.int .i64 id, .int .i64 p, .int .i64 pl] .exact) := g2.get (by rw [tl_get1]; rfl) fun o ho => by have := hs0 _ ho; simp only at this; omega
    have hol := outI_len h.w.lv (id * 1024 + p) pl
    rw [List.length_map] at g3
    obtain ⟨s', G', u1, u2, u3, _⟩ := g2.add [.cells [.int .i64 id, .int .i64 p, .int .i64 pl] .exact] (by decide) (new := [.int .i64 id, .int .i64 p, .int .i64 pl]) (bytes := 24) rfl (by omega) (by omega)
    have e1 : rowsOf ctL ((ains st.lv (id * 1024 + p) pl).map rlv) = rowsOf ctL ((outI (id * 1024 + p) pl st.lv).map rlv) ++ [.int .i64 id, .int .i64 p, .int .i64 pl] := by
      rw [← hall, List.map_append, rowsOf_append']
      congr 1
      show rowsOf ctL [rlv (id * 1024 + p, pl)] = _
      rw [show rlv (id * 1024 + p, pl) = (id, p, pl, ()) from tup3 (key_div id p hp.1 hp.2).1 (key_div id p hp.1 hp.2).2]; rfl
    have e2 : s'.len = (ains st.lv (id * 1024 + p) pl).length := by rw [u3, g3, ← hall, List.length_append]; rfl
    obtain ⟨v', G2, d1, d2⟩ := done s' G' (by rw [e1]; exact u2) e2
    refine ⟨v', G2, (bind_to g1).trans ?_, d2⟩
    have l2 : rd G (.agg [.int .i64, .int .i64, .int .i64]) (H.length + 1) 0 = (some (id, p, pl, ()) : Option (Int × Int × Int × Unit)) := rd_agg_of hleaf (by simp) rfl
    simp only [Bool.not_false, cond_true, l2, Option.bind_some, Option.map_some, cond_true, cond_false, List.append_assoc, List.cons_append, List.nil_append, List.length_append, List.length_cons, List.length_nil, Nat.zero_add, rd_t0, rd_t1, rdI_t0, rdI_t1, rdB_t0, rdB_t1, rdM_t0, rdM_t1, rd_c1, rdI_c1, rdB_c1, rdM_c1, rdI_c0, rdB_c0, rdM_c0, wr_t0, wr_t1, wr_c0, wr_c1, setL, List.set, List.getElem?_cons_zero, List.getElem?_cons_succ, un_i, un_b, un_m, un_s, un_sl1, un_sl2, un_sl3, Nat.le_refl, rd_iiib, rd_iiiiii, rd_ibm, rd_iii, rd_iib, rd_ii, rd_3312, rd_iiii, rd_si, rd_33121, rd_33121i, slRow_t0, slRow_t1, sl_c0, sl_c1]
    exact (bind_to u1).trans d1
end
end Ev
