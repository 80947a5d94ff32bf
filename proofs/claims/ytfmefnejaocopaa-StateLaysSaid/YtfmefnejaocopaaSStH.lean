/- A state told as records. -/
import Derived.Test.YtfmefnejaocopaaSStG
set_option linter.unusedSimpArgs false
set_option linter.unusedVariables false
namespace Ev
open Go (IntKind)

def rc (k s p pl t n : Int) : Tup ctR := (k, s, p, pl, t, n, ())
theorem rowsOf_append {cts : List CT} (l l' : List (Tup cts)) : rowsOf cts (l ++ l') = rowsOf cts l ++ rowsOf cts l' := by simp [rowsOf]
theorem rowsOf_flatten {α : Type} {cts : List CT} (l : List α) (g : α → List (Tup cts)) : rowsOf cts (l.map g).flatten = (l.map fun x => rowsOf cts (g x)).flatten := by
  induction l with
  | nil => rfl
  | cons x l ih => rw [List.map_cons, List.flatten_cons, rowsOf_append, ih, List.map_cons, List.flatten_cons]
/-- A space, told. -/
def dumpS (lv : List (Int × Int)) (x : Int × Int × Bool) : List (Tup ctR) :=
  (rc 4 x.1 0 0 0 x.2.1) :: ((pgs lv x.1).map (fun y => (rc 1 x.1 y.1 y.2 0 0)) ++ (if x.2.2 = true then [rc 7 x.1 0 0 0 0] else []))
def dumpL (st : Sta) : List (Tup ctR) := (st.sp.map (dumpS st.lv)).flatten ++ (st.bd.map fun y => (rc 8 0 0 y.1 0 0)) ++ st.wn.map fun y => (rc 9 0 0 y.1 0 y.2)
section
variable {K : Heap} {s0 : Sl} {cs0 : List C}
/-- The pages of one space. -/
theorem dump_pages {pgb : Nat} {P : List (Int × Int)} {id : Int} {B : Nat} {H3 : Heap} (hm : MpA K pgb inW P) (hP : Asc P) (hE : Em K s0 6 K s0 cs0) (hp : ∀ o, s0.p ≠ some (pgb, o)) (hH3 : H3.length = B) {q n : Int} {b : Bool}
    (hb : K[B]? = some (.cells [.int .i64 id, .int .i64 q, .int .i64 n, .bool b] .exact)) (hb0 : ∀ o, s0.p ≠ some (B, o)) {ks : Sl} (hks : Row K 1 ks (intC (P.map Prod.fst))) (hkl : ks.len = P.length) (hk0 : ∀ b o o', ks.p = some (b, o) → s0.p ≠ some (b, o'))
    (hlen : P.length ≤ 1024) (hs : s0.len ≤ 20000) {v16 : (Int × Bool × Option Nat × Unit) × Bool} (hv : v16.1.2.2.1 = some pgb) {r18 : (Sl × Unit) × Heap} (hr : r18.1.1 = ks) :
    ∃ s G, loopW (state_State_Dump.s1 H3 v16 r18) (s0, 0, ()) K = some ((s, ()), G) ∧ Em K s0 6 G s (cs0 ++ rowsOf ctR (P.map fun y => (rc 1 id y.1 y.2 0 0))) ∧ s.len = s0.len + P.length := by
  have hll : (P.map Prod.fst).length = P.length := List.length_map _
  obtain ⟨s, G, g1, g2, g3⟩ := emit (H := K) (s0 := s0) (es := 6) (step := state_State_Dump.s1 H3 v16 r18) P (fun y => Tup.mk ctR (rc 1 id y.1 y.2 0 0)) hE
    (fun i hi s G cs hE hn => by
      have hd : decide ((i : Int) < (ks.len : Int)) = true := decide_eq_true (by rw [hkl]; omega)
      obtain ⟨b', o', _, r1, r2⟩ := (hE.row hks hk0).int (i := i) (by omega)
      have hx : (P.map Prod.fst)[i]'(by omega) = P[i].1 := List.getElem_map _
      rw [hx] at r2
      have hG : MpA G pgb inW P := by
        obtain ⟨dc, hm⟩ := hm
        exact ⟨dc, hE.get hm hp⟩
      have hf : afind P P[i].1 = some P[i].2 := hP.find (List.getElem_mem hi)
      have hid : rdI .i64 G H3.length 0 = some id := rdI_of (hE.get (by rw [hH3]; exact hb) (by rw [hH3]; exact hb0)) rfl
      have hE2 := hE.push [.cells (Tup.mk ctR (rc 1 id P[i].1 P[i].2 0 0)) .exact]
      obtain ⟨s', G', u1, u2, u3, _, _⟩ := hE2.app (by decide) (new := Tup.mk ctR (rc 1 id P[i].1 P[i].2 0 0)) (bytes := 48) rfl (by rw [hn]; omega) (by rw [hn]; omega)
      unfold state_State_Dump.s1
      simp only [hd, cond_true, hr, r1, r2, hid, hv, Option.bind_some]
      simp only [hG.int, hf, Option.getD_some, Option.bind_some, Option.map_some, cond_true, cond_false, List.append_assoc, List.cons_append, List.nil_append, List.length_append, List.length_cons, List.length_nil, Nat.zero_add, rd_t0, rd_t1, rdI_t0, rdI_t1, rdB_t0, rdB_t1, rdM_t0, rdM_t1, rd_c1, rdI_c1, rdB_c1, rdM_c1, rdI_c0, rdB_c0, rdM_c0, wr_t0, wr_t1, wr_c0, wr_c1, setL, List.set, List.getElem?_cons_zero, List.getElem?_cons_succ, un_i, un_b, un_m, un_s, Nat.le_refl, rd_iiib, rd_iiiiii, rd_ibm, rd_iii, rd_iib, rd_ii, rd_3312, rd_iiii, rd_si, rd_33121, rd_33121i, slRow_t0, slRow_t1, sl_c0, sl_c1]
      refine ⟨s', G', (bind_to u1).trans ?_, u2, u3⟩
      simp only [wrap_succ (show i < 9223372036854775807 by omega)])
    (fun s G => by
      have hd : decide ((P.length : Int) < (ks.len : Int)) = false := decide_eq_false (by rw [hkl]; omega)
      unfold state_State_Dump.s1
      simp only [hr, hd, cond_false])
  refine ⟨s, G, g1, ?_, g3⟩
  rw [show rowsOf ctR (P.map fun y => (rc 1 id y.1 y.2 0 0)) = (P.map fun y => Tup.mk ctR (rc 1 id y.1 y.2 0 0)).flatten from rowsOf_map (cts := ctR) P fun y => (rc 1 id y.1 y.2 0 0)]
  exact g2
end
section
variable {H K : Heap} {a : SaA} {st : Sta} {s0 : Sl} {cs0 : List C}
theorem Em.calmK {es : Nat} {G : Heap} {s : Sl} {cs : List C} (h : Em K s0 es G s cs) (hs : StAt K a st) (h0 : ∀ b o, s0.p = some (b, o) → ¬ a.fp st b) : StAt G a st := hs.keep h.k fun b hb ⟨o, ho⟩ => h0 b o ho hb
theorem dump_space (hK : StAt K a st) {r1 : (Sl × Unit) × Heap} (hrow : Row K 4 r1.1.1 (rowsOf ctI (infos st))) (hrl : r1.1.1.len = st.sp.length) {i : Nat} (hi : i < st.sp.length) {s : Sl} {G : Heap} {cs : List C} (hE : Em K ⟨none, 0, 0⟩ 6 G s cs) (hs : s.len ≤ 20000 - 1100) :
    ∃ s' G', state_State_Dump.s2 (some (a.c, 0)) r1 (s, (i : Int), ()) G = some (.inl (s', ((i + 1 : Nat) : Int), ()), G') ∧ Em K ⟨none, 0, 0⟩ 6 G' s' (cs ++ rowsOf ctR (dumpS st.lv st.sp[i])) ∧ s'.len = s.len + (dumpS st.lv st.sp[i]).length := by
  have hlen : (infos st).length = st.sp.length := List.length_map _
  have hx : afind st.sp st.sp[i].1 = some st.sp[i].2 := hK.w.sp.find (List.getElem_mem hi)
  have hr : (infos st)[i]'(by omega) = (st.sp[i].1, st.sp[i].2.1, ((pgs st.lv st.sp[i].1).length : Int), st.sp[i].2.2, ()) :=
    (List.getElem_map (fun x : Int × Int × Bool => (spI st x.1 : Tup ctI)) (l := st.sp)).trans (spI_at st hx)
  obtain ⟨⟨id, q, b⟩, hsx⟩ : ∃ x, x = st.sp[i] := ⟨_, rfl⟩
  rw [← hsx] at hx hr ⊢
  have hd : decide ((i : Int) < (r1.1.1.len : Int)) = true := decide_eq_true (by rw [hrl]; omega)
  obtain ⟨b0, o0, e1, e2, _⟩ := Row.rd (cts := ctI) (rows := infos st) (hE.row hrow fun _ _ _ _ hh => by cases hh) (i := i) (by omega) (by decide)
  have e1 : Sl.at 4 r1.1.1 (i : Int) = some (b0, o0) := e1
  rw [hr] at e2
  have e2 : rd G (.agg [.int .i64, .int .i64, .int .i64, .bool]) b0 o0 = (some (id, q, ((pgs st.lv id).length : Int), b, ()) : Option (Int × Int × Int × Bool × Unit)) := e2
  -- the space's own record
  have hE1 := hE.push [.cells [.int .i64 id, .int .i64 q, .int .i64 ((pgs st.lv id).length : Int), .bool b] .exact, .cells (Tup.mk ctR (rc 4 id 0 0 0 q)) .exact]
  obtain ⟨s1, G1, u1, u2, u3, u4, u5⟩ := hE1.app (by decide) (new := Tup.mk ctR (rc 4 id 0 0 0 q)) (bytes := 48) rfl (by omega) (by omega)
  have hsl : ∀ o, s.p ≠ some (G.length, o) := fun o hp => by have := hE.g.lt hp; simp only at this; omega
  have hbx : G1[G.length]? = some (.cells [.int .i64 id, .int .i64 q, .int .i64 ((pgs st.lv id).length : Int), .bool b] .exact) := u4.get (by rw [tl_get0]; rfl) fun ⟨o, ho⟩ => hsl o ho
  have hG1 : StAt G1 a st := u2.calmK hK fun b o hh => by cases hh
  have hs1 : ∀ b o, s1.p = some (b, o) → G.length < b := fun b o hp => by have := u5 _ hp; simp only [List.length_append, List.length_cons, List.length_nil] at this; omega
  have hGK := hE.k.len
  have hPg := hG1.pg id _ hx
  -- the pages
  obtain ⟨ks, K3, f1, f2, f3, f4, f5, f6⟩ := hPg.sorted (by have := hK.w.pgl id; omega) fun y hy => by have := pgs_mem hy; omega
  have hE3 : Em K ⟨none, 0, 0⟩ 6 K3 s1 _ := u2.keep f6 fun _ hf => hf.elim
  have hg3 : Grown K3 6 s1 _ := hE3.g
  obtain ⟨s4, G4, v1, v2, v3⟩ := dump_pages (H3 := G) (B := G.length) (hPg.keep f6 fun hf => hf) (pgs_asc hK.w.lv id) (Em.start hg3) (fun o hp => by
      have := hs1 _ _ hp
      have h2 := (hK.pg id _ hx).lt
      omega) rfl (id := id) (q := q) (n := ((pgs st.lv id).length : Int)) (b := b) (f6.get hbx fun hf => hf) (fun o hp => by have := hs1 _ _ hp; omega) ⟨f2, f4⟩ f3 (fun b o o' hp hp' => by
      have h1 := f5 _ hp
      have h2 := u2.g.lt hp'
      simp only at h1 h2
      omega) (hK.w.pgl id) (by omega) (v16 := (spV a.pg id (afind st.sp id), (afind st.sp id).isSome)) (by rw [hx]; rfl) (r18 := ((ks, ()), K3)) rfl
  have hE4 := hE3.then v2
  have hbx4 : G4[G.length]? = some (.cells [.int .i64 id, .int .i64 q, .int .i64 ((pgs st.lv id).length : Int), .bool b] .exact) := v2.get (f6.get hbx fun hf => hf) fun o hp => by have := hs1 _ _ hp; omega
  have q0 : rdI .i64 G4 G.length 0 = some id := rdI_of hbx4 rfl
  have q3 : rdB G4 G.length 3 = some b := rdB_of hbx4 rfl
  have p0 : rdI .i64 G1 G.length 0 = some id := rdI_of hbx rfl
  have hpl := hK.w.pgl id
  unfold state_State_Dump.s2
  simp only [hd, cond_true, e1, Option.bind_some]
  simp only [e2, Option.bind_some, Option.map_some, cond_true, cond_false, List.append_assoc, List.cons_append, List.nil_append, List.length_append, List.length_cons, List.length_nil, Nat.zero_add, rd_t0, rd_t1, rdI_t0, rdI_t1, rdB_t0, rdB_t1, rdM_t0, rdM_t1, rd_c1, rdI_c1, rdB_c1, rdM_c1, rdI_c0, rdB_c0, rdM_c0, wr_t0, wr_t1, wr_c0, wr_c1, setL, List.set, List.getElem?_cons_zero, List.getElem?_cons_succ, un_i, un_b, un_m, un_s, Nat.le_refl, rd_iiib, rd_iiiiii, rd_ibm, rd_iii, rd_iib, rd_ii, rd_3312, rd_iiii, rd_si, rd_33121, rd_33121i, slRow_t0, slRow_t1, sl_c0, sl_c1]
  refine Exists.imp (fun s' => Exists.imp fun G' hh => ⟨(bind_to u1).trans hh.1, hh.2⟩) (?_ : ∃ s' G', _ ∧ _)
  have hsp : (spV a.pg id (afind st.sp id)).2.2.1 = some (a.pg id) := by rw [hx]; rfl
  simp only [hG1.r0, p0, Option.bind_some, hG1.sp.space, hsp, maps_Keys_map_int_int_int_int, f1]
  refine Exists.imp (fun s' => Exists.imp fun G' hh => ⟨(bind_to v1).trans hh.1, hh.2⟩) (?_ : ∃ s' G', _ ∧ _)
  simp only [q3, Option.bind_some]
  have hrow4 : rowsOf ctR (dumpS st.lv (id, q, b)) = Tup.mk ctR (rc 4 id 0 0 0 q) ++ (rowsOf ctR ((pgs st.lv id).map fun y => rc 1 id y.1 y.2 0 0) ++ rowsOf ctR (if b = true then [rc 7 id 0 0 0 0] else [])) := by
    unfold dumpS rowsOf
    rw [List.map_cons, List.flatten_cons, List.map_append, List.flatten_append]
  have hdl : (dumpS st.lv (id, q, b)).length = 1 + (pgs st.lv id).length + (if b = true then 1 else 0) := by
    unfold dumpS
    rw [List.length_cons, List.length_append, List.length_map]
    cases b <;> simp <;> omega
  rw [hrow4, hdl]
  cases b with
  | false =>
    refine ⟨s4, G4, ?_, ?_, ?_⟩
    · simp only [cond_false, wrap_succ (show i < 9223372036854775807 by have := hK.w.few; omega)]
    · rw [show rowsOf ctR (if false = true then [rc 7 id 0 0 0 0] else []) = [] from rfl, List.append_nil, ← List.append_assoc]
      exact hE4
    · rw [if_neg (by decide)]; omega
  | true =>
    have hE5 := hE4.push [.cells (Tup.mk ctR (rc 7 id 0 0 0 0)) .exact]
    obtain ⟨s6, G6, w1, w2, w3, _, _⟩ := hE5.app (by decide) (new := Tup.mk ctR (rc 7 id 0 0 0 0)) (bytes := 48) rfl (by omega) (by omega)
    simp only [cond_true, q0, Option.bind_some, Option.map_some, cond_true, cond_false, List.append_assoc, List.cons_append, List.nil_append, List.length_append, List.length_cons, List.length_nil, Nat.zero_add, rd_t0, rd_t1, rdI_t0, rdI_t1, rdB_t0, rdB_t1, rdM_t0, rdM_t1, rd_c1, rdI_c1, rdB_c1, rdM_c1, rdI_c0, rdB_c0, rdM_c0, wr_t0, wr_t1, wr_c0, wr_c1, setL, List.set, List.getElem?_cons_zero, List.getElem?_cons_succ, un_i, un_b, un_m, un_s, Nat.le_refl, rd_iiib, rd_iiiiii, rd_ibm, rd_iii, rd_iib, rd_ii, rd_3312, rd_iiii, rd_si, rd_33121, rd_33121i, slRow_t0, slRow_t1, sl_c0, sl_c1]
    refine ⟨s6, G6, (bind_to w1).trans ?_, ?_, ?_⟩
    · simp only [wrap_succ (show i < 9223372036854775807 by have := hK.w.few; omega)]
    · rw [if_pos trivial, show rowsOf ctR [rc 7 id 0 0 0 0] = Tup.mk ctR (rc 7 id 0 0 0 0) from rfl, ← List.append_assoc, ← List.append_assoc]
      exact w2
    · rw [if_pos trivial]; omega
theorem one_more {l : List Nat} {i : Nat} (h : ∀ x ∈ l, x ≤ 1030) (hl : l.length ≤ 15) : (l.take i).sum ≤ 15450 := by
  refine Nat.le_trans (sum_take_le l i) ?_
  have : ∀ l : List Nat, (∀ x ∈ l, x ≤ 1030) → l.sum ≤ l.length * 1030 := fun l => by
    induction l with
    | nil => intro _; exact Nat.le_refl _
    | cons x l ih =>
      intro h
      have h1 := h x (by simp)
      have h2 := ih fun y hy => h y (by simp [hy])
      rw [List.sum_cons, List.length_cons]; omega
  have := this l h
  omega
theorem dumpS_len (w : SaW st) (x : Int × Int × Bool) : (dumpS st.lv x).length ≤ 1030 := by
  have := w.pgl x.1
  unfold dumpS
  rw [List.length_cons, List.length_append, List.length_map]
  split <;> simp <;> omega
theorem st_dump (h : StAt H a st) : ∃ s G, state_State_Dump (some (a.c, 0)) H = some ((s, ()), G) ∧ Em H ⟨none, 0, 0⟩ 6 G s (rowsOf ctR (dumpL st)) ∧ s.len = (dumpL st).length := by
  obtain ⟨r1, K, e1, e2, e3⟩ := st_spaces h
  have kK := e2.calm rfl
  have hK := h.keep kK fun _ _ hf => hf
  have hrow : Row K 4 r1 (rowsOf ctI (infos st)) := Row.grown e2.g
  have hfew := h.w.few
  have hbl : st.bd.length ≤ 32 := asc_bound (a := 0) h.w.bd fun x hx => by have := h.w.bds x hx; omega
  have hwl : st.wn.length ≤ 32 := asc_bound (a := 0) h.w.wn fun x hx => by have := h.w.wns x hx; omega
  have hmb : ∀ i, ((st.sp.take i).map fun x => (dumpS st.lv x).length).sum ≤ 15450 := fun i => by
    rw [List.map_take]
    refine one_more (fun y hy => ?_) (by rw [List.length_map]; exact hfew)
    obtain ⟨z, _, rfl⟩ := List.mem_map.1 hy
    exact dumpS_len h.w z
  -- spaces
  obtain ⟨s1, G1, f1, f2, f3⟩ := emitN (H := K) (s0 := ⟨none, 0, 0⟩) (es := 6) (step := state_State_Dump.s2 (some (a.c, 0)) ((r1, ()), K)) st.sp (fun x => rowsOf ctR (dumpS st.lv x)) (fun x => (dumpS st.lv x).length) (Em.start (Grown.ni K 6))
    (fun i hi s G cs hE hn => dump_space hK hrow e3 hi hE (by rw [hn]; have := hmb i; simp only; omega))
    (fun s G _ _ => by
      have hd : decide ((st.sp.length : Int) < (r1.len : Int)) = false := decide_eq_false (by rw [e3]; omega)
      unfold state_State_Dump.s2
      simp only [hd, cond_false])
  have hl1 : s1.len ≤ 15450 := by
    have := hmb st.sp.length
    rw [List.take_length] at this
    simp only at f3
    omega
  have hG1 := f2.calmK hK fun b o hh => by cases hh
  -- bad blocks
  obtain ⟨kb, K2, b1, b2, b3, b4, b5, b6⟩ := hG1.bd.sorted (by omega) fun y hy => by have := h.w.bds y hy; omega
  have hE2 : Em K2 s1 6 K2 s1 _ := Em.start (f2.keep b6 fun _ hf => hf.elim).g
  obtain ⟨s2, G2, c1, c2, c3⟩ := emit (H := K2) (s0 := s1) (es := 6) (step := state_State_Dump.s3 ((kb, ()), K2)) st.bd (fun y => Tup.mk ctR (rc 8 0 0 y.1 0 0)) hE2
    (fun i hi s G cs hE hn => by
      have hd : decide ((i : Int) < (kb.len : Int)) = true := decide_eq_true (by rw [b3]; omega)
      have hlm : (st.bd.map Prod.fst).length = st.bd.length := List.length_map _
      obtain ⟨b', o', _, r1, r2⟩ := (hE.row (⟨b2, b4⟩ : Row K2 1 kb (intC (st.bd.map Prod.fst))) (fun b o o' hp hp' => by
        have h1 := b5 _ hp
        have h2 := f2.g.lt hp'
        simp only at h1 h2
        omega)).int (i := i) (by omega)
      have hx : (st.bd.map Prod.fst)[i]'(by omega) = st.bd[i].1 := List.getElem_map _
      rw [hx] at r2
      have hE2 := hE.push [.cells (Tup.mk ctR (rc 8 0 0 st.bd[i].1 0 0)) .exact]
      obtain ⟨s', G', u1, u2, u3, _, _⟩ := hE2.app (by decide) (new := Tup.mk ctR (rc 8 0 0 st.bd[i].1 0 0)) (bytes := 48) rfl (by omega) (by omega)
      unfold state_State_Dump.s3
      simp only [hd, cond_true, r1, r2, Option.bind_some, Option.map_some, cond_true, cond_false, List.append_assoc, List.cons_append, List.nil_append, List.length_append, List.length_cons, List.length_nil, Nat.zero_add, rd_t0, rd_t1, rdI_t0, rdI_t1, rdB_t0, rdB_t1, rdM_t0, rdM_t1, rd_c1, rdI_c1, rdB_c1, rdM_c1, rdI_c0, rdB_c0, rdM_c0, wr_t0, wr_t1, wr_c0, wr_c1, setL, List.set, List.getElem?_cons_zero, List.getElem?_cons_succ, un_i, un_b, un_m, un_s, Nat.le_refl, rd_iiib, rd_iiiiii, rd_ibm, rd_iii, rd_iib, rd_ii, rd_3312, rd_iiii, rd_si, rd_33121, rd_33121i, slRow_t0, slRow_t1, sl_c0, sl_c1]
      refine ⟨s', G', (bind_to u1).trans ?_, u2, u3⟩
      simp only [wrap_succ (show i < 9223372036854775807 by omega)])
    (fun s G => by
      have hd : decide ((st.bd.length : Int) < (kb.len : Int)) = false := decide_eq_false (by rw [b3]; omega)
      unfold state_State_Dump.s3
      simp only [hd, cond_false])
  have hEG2 : Em K ⟨none, 0, 0⟩ 6 G2 s2 _ := (f2.keep b6 fun _ hf => hf.elim).then c2
  have hG2 := hEG2.calmK hK fun b o hh => by cases hh
  -- wear
  obtain ⟨kw, K3, d1, d2, d3, d4, d5, d6⟩ := hG2.wn.sorted (by omega) fun y hy => by have := h.w.wns y hy; omega
  have hE3 : Em K3 s2 6 K3 s2 _ := Em.start (hEG2.keep d6 fun _ hf => hf.elim).g
  obtain ⟨s3, G3, i1, i2, i3⟩ := emit (H := K3) (s0 := s2) (es := 6) (step := state_State_Dump.s4 (some (a.c, 0)) ((kw, ()), K3)) st.wn (fun y => Tup.mk ctR (rc 9 0 0 y.1 0 y.2)) hE3
    (fun i hi s G cs hE hn => by
      have hd : decide ((i : Int) < (kw.len : Int)) = true := decide_eq_true (by rw [d3]; omega)
      have hlm : (st.wn.map Prod.fst).length = st.wn.length := List.length_map _
      obtain ⟨b', o', _, r1, r2⟩ := (hE.row (⟨d2, d4⟩ : Row K3 1 kw (intC (st.wn.map Prod.fst))) (fun b o o' hp hp' => by
        have h1 := d5 _ hp
        have h2 := hEG2.g.lt hp'
        simp only at h1 h2
        omega)).int (i := i) (by omega)
      have hx : (st.wn.map Prod.fst)[i]'(by omega) = st.wn[i].1 := List.getElem_map _
      rw [hx] at r2
      have hEG : Em K ⟨none, 0, 0⟩ 6 G s _ := (hEG2.keep d6 fun _ hf => hf.elim).then hE
      have hG := hEG.calmK hK fun b o hh => by cases hh
      have hf : afind st.wn st.wn[i].1 = some st.wn[i].2 := h.w.wn.find (List.getElem_mem hi)
      have hE2 := hE.push [.cells (Tup.mk ctR (rc 9 0 0 st.wn[i].1 0 st.wn[i].2)) .exact]
      obtain ⟨s', G', u1, u2, u3, _, _⟩ := hE2.app (by decide) (new := Tup.mk ctR (rc 9 0 0 st.wn[i].1 0 st.wn[i].2)) (bytes := 48) rfl (by omega) (by omega)
      unfold state_State_Dump.s4
      simp only [hd, cond_true, r1, r2, Option.bind_some, hG.r3]
      simp only [hG.wn.int, hf, Option.getD_some, Option.bind_some, Option.map_some, cond_true, cond_false, List.append_assoc, List.cons_append, List.nil_append, List.length_append, List.length_cons, List.length_nil, Nat.zero_add, rd_t0, rd_t1, rdI_t0, rdI_t1, rdB_t0, rdB_t1, rdM_t0, rdM_t1, rd_c1, rdI_c1, rdB_c1, rdM_c1, rdI_c0, rdB_c0, rdM_c0, wr_t0, wr_t1, wr_c0, wr_c1, setL, List.set, List.getElem?_cons_zero, List.getElem?_cons_succ, un_i, un_b, un_m, un_s, Nat.le_refl, rd_iiib, rd_iiiiii, rd_ibm, rd_iii, rd_iib, rd_ii, rd_3312, rd_iiii, rd_si, rd_33121, rd_33121i, slRow_t0, slRow_t1, sl_c0, sl_c1]
      refine ⟨s', G', (bind_to u1).trans ?_, u2, u3⟩
      simp only [wrap_succ (show i < 9223372036854775807 by omega)])
    (fun s G => by
      have hd : decide ((st.wn.length : Int) < (kw.len : Int)) = false := decide_eq_false (by rw [d3]; omega)
      unfold state_State_Dump.s4
      simp only [hd, cond_false])
  have hEG3 : Em K ⟨none, 0, 0⟩ 6 G3 s3 _ := (hEG2.keep d6 fun _ hf => hf.elim).then i2
  refine ⟨s3, G3, ?_, ?_, ?_⟩
  · unfold state_State_Dump
    simp only [Option.isNone_some, cond_false, e1, Option.bind_some]
    refine (bind_to f1).trans ?_
    simp only [hG1.r2, Option.bind_some, maps_Keys_map_int_bool_int_bool, b1]
    refine (bind_to c1).trans ?_
    simp only [hG2.r3, Option.bind_some, maps_Keys_map_int_int_int_int, d1]
    exact (bind_to i1).trans rfl
  · have := hEG3.under (H := H) (kK.mono fun _ hf => hf.elim)
    rw [List.nil_append] at this
    have e : rowsOf ctR (dumpL st) = (st.sp.map fun x => rowsOf ctR (dumpS st.lv x)).flatten ++ (st.bd.map fun y => Tup.mk ctR (rc 8 0 0 y.1 0 0)).flatten ++ (st.wn.map fun y => Tup.mk ctR (rc 9 0 0 y.1 0 y.2)).flatten := by
      unfold dumpL
      rw [rowsOf_append, rowsOf_append, rowsOf_flatten, rowsOf_map (cts := ctR) st.bd, rowsOf_map (cts := ctR) st.wn]
    rw [e]; exact this
  · unfold dumpL
    rw [List.length_append, List.length_append, List.length_flatten, List.map_map, List.length_map, List.length_map]
    simp only at f3
    rw [i3, c3, f3, Nat.zero_add]; rfl
end
end Ev
