/- A space is made, with another's pages. -/
import Derived.Test.YtfmefnejaocopaaSStD
set_option linter.unusedSimpArgs false
set_option linter.unusedVariables false
namespace Ev
open Go (IntKind)

theorem cnt_append (A B : List (Int × Int)) (c : Int) : cnt (A ++ B) c = cnt A c + cnt B c := by unfold cnt; rw [List.filter_append, List.length_append]
theorem cnt_perm {A B : List (Int × Int)} (h : A.Perm B) (c : Int) : cnt A c = cnt B c := (h.filter _).length_eq
theorem nodup_len : ∀ {l ks : List Int}, l.Nodup → (∀ x ∈ l, x ∈ ks) → l.length ≤ ks.length
  | [], _, _, _ => Nat.zero_le _
  | x :: l, ks, hn, h => by
    rw [List.nodup_cons] at hn
    have hx := h x (by simp)
    have := nodup_len (l := l) (ks := ks.erase x) hn.2 fun y hy => (List.mem_erase_of_ne (fun e => hn.1 (by rw [← e]; exact hy))).2 (h y (by simp [hy]))
    rw [List.length_erase_of_mem hx] at this
    have h0 : 0 < ks.length := List.length_pos_of_mem hx
    rw [List.length_cons]; omega
/-- Another's pages in. -/
def insAll (id : Int) (lv : List (Int × Int)) (P : List (Int × Int)) : List (Int × Int) := P.foldl (fun lv x => ains lv (id * 1024 + x.1) x.2) lv
theorem insAll_asc {id : Int} : ∀ {P lv : List (Int × Int)}, Asc lv → Asc (insAll id lv P)
  | [], _, h => h
  | x :: P, lv, h => insAll_asc (P := P) (lv := ains lv (id * 1024 + x.1) x.2) (h.ins _ _)
theorem insAll_find {id : Int} (j : Int) : ∀ {P lv : List (Int × Int)}, Asc lv → Asc P → afind (insAll id lv P) j = (afind P (j - id * 1024)).or (afind lv j)
  | [], lv, _, _ => rfl
  | x :: P, lv, h, hP => by
    show afind (insAll id (ains lv (id * 1024 + x.1) x.2) P) j = _
    rw [insAll_find j (h.ins _ _) hP.tail, afind_ins h]
    show _ = (if x.1 = j - id * 1024 then some x.2 else afind P (j - id * 1024)).or (afind lv j)
    by_cases e : j = id * 1024 + x.1
    · rw [if_pos e, if_pos (by omega), afind_none fun y hy => by have := hP.head hy; omega]; rfl
    · rw [if_neg e, if_neg (by omega)]
theorem insAll_cnt {id : Int} (c : Int) : ∀ {P lv : List (Int × Int)}, Asc lv → Asc P → (∀ x ∈ P, afind lv (id * 1024 + x.1) = none) → cnt (insAll id lv P) c = cnt P c + cnt lv c
  | [], lv, _, _, _ => by rw [cnt_nil, Nat.zero_add]; rfl
  | x :: P, lv, h, hP, hn => by
    show cnt (insAll id (ains lv (id * 1024 + x.1) x.2) P) c = _
    rw [insAll_cnt c (h.ins _ _) hP.tail fun y hy => by
      have := hP.head hy
      rw [afind_ins h, if_neg (by omega)]
      exact hn y (by simp [hy]), cnt_ins h (hn x (by simp)), cnt_cons]
    omega
section
variable {H H0 : Heap} {a : SaA} {st : Sta}
theorem free_keys (w : SaW st) {id : Int} (hn : afind st.sp id = none) {p : Int} (hp : 0 ≤ p ∧ p < 1024) : afind st.lv (id * 1024 + p) = none := by
  have := pgs_find w.lv id p
  rw [pgs_none w hn, if_pos hp] at this
  exact this.symm
theorem open_loop (h : StAt H0 a st) {P : List (Int × Int)} (hP : Asc P) (hpl : P.length ≤ 1024) {cl : Nat} (hcl : H0[cl]? = some (.mp (encA inW P) 0)) (hc1 : cl ≠ a.rf) :
    ∃ G dr, eachW (state_State_open.s1 (some (a.c, 0)) (some cl)) (some cl) () H0 = some ((), G) ∧ G = H0.set a.rf (.mp (encA inW (rfOf (P ++ st.lv))) dr) := by
  obtain ⟨dr, hR⟩ := h.rf
  have hl1 := get_lt hR
  have hcr : a.c ≠ a.rf := fun e => by have := h.c; rw [e, hR] at this; cases this
  let w : List Int → List (Int × Int) := fun l => l.map fun k => (k, (afind P k).getD 0)
  let F : List Int → Heap := fun l => H0.set a.rf (.mp (encA inW (rfOf (w l ++ st.lv))) dr)
  have hF : ∀ l, F l = H0.set a.rf (.mp (encA inW (rfOf (w l ++ st.lv))) dr) := fun _ => rfl
  have hwP : w (P.map Prod.fst) = P := by
    show (P.map Prod.fst).map _ = P
    rw [List.map_map]
    refine (List.map_congr_left fun x hx => ?_).trans (List.map_id P)
    show (x.1, (afind P x.1).getD 0) = x
    rw [hP.find (k := x.1) (v := x.2) hx]; rfl
  have hcm : MpA H0 cl inW P := ⟨0, hcl⟩
  obtain ⟨dc, hhd⟩ := hcm.head
  have hperm : ∀ l : List Int, l.Perm (P.map Prod.fst) → F l = F (P.map Prod.fst) := fun l hl => by
    rw [hF, hF, (rfOf_ok (w l ++ st.lv)).uniq (rf' := rfOf (w (P.map Prod.fst) ++ st.lv)) ⟨(rfOf_ok _).asc, fun c => by rw [(rfOf_ok _).find, cnt_append, cnt_append, cnt_perm (hl.map _) c]⟩]
  refine ⟨F (P.map Prod.fst), dr, ?_, by rw [hF, hwP]⟩
  refine eachW_of (ks := P.map Prod.fst) hcm.keys hhd (keys_nodup hP) (fun _ => ()) F rfl (by rw [hF]; exact set_same hR) (fun l k hl hn hk hkl => ?_) (fun l hl => ⟨rfl, by rw [hperm l hl]; exact Alike.refl _ _⟩)
  obtain ⟨v, hv⟩ := Option.isSome_iff_exists.1 (afind_isSome.2 hk)
  have hm1 : mat (F l) (.one (.int .i64)) (some cl) k = some v := by
    have hcF : MpA (F l) cl inW P := ⟨0, by rw [hF, set_get' (Ne.symm hc1)]; exact hcl⟩
    exact hcF.mat (.one (.int .i64)) k (by rw [hv]; rfl)
  have hcF : (F l)[a.c]? = some (.cells [.mp (some a.sp), .mp (some a.rf), .mp (some a.bd), .mp (some a.wn)] .exact) := by rw [hF, set_get' (Ne.symm hcr)]; exact h.c
  have hrF : (F l)[a.rf]? = some (.mp (encA inW (rfOf (w l ++ st.lv))) dr) := by rw [hF, set_get hl1]
  have hlen := nodup_len hn hl
  rw [List.length_map] at hlen
  have hc15 : cnt (w l ++ st.lv) v ≤ 20000 := by
    have h1 := cnt_le (w l ++ st.lv) v
    have h2 := h.w.many
    rw [List.length_append, show (w l).length = l.length from List.length_map _] at h1
    omega
  refine ⟨?_, ?_⟩
  · unfold state_State_open.s1
    refine (bind_to hm1).trans ?_
    have hg : mget (F l) (.one (.int .i64)) (.one (.int .i64 0)) (some a.rf) v = some ((cnt (w l ++ st.lv) v : Int), (afind (rfOf (w l ++ st.lv)) v).isSome) := by rw [MpA.int ⟨_, hrF⟩, (rfOf_ok _).get]
    simp only [Option.bind_some, rdM_of hcF (o := 0 + 1) rfl]
    refine (bind_to hg).trans ?_
    have e1 : ains (rfOf (w l ++ st.lv)) v ((cnt (w l ++ st.lv) v : Int) + 1) = rfOf (w (l ++ [k]) ++ st.lv) :=
      ((rfOf_ok _).more (lv' := w (l ++ [k]) ++ st.lv) fun c => by
        rw [show w (l ++ [k]) = w l ++ [(k, v)] from by show (l ++ [k]).map _ = _; rw [List.map_append]; show _ ++ [(k, (afind P k).getD 0)] = _; rw [hv]; rfl]
        rw [cnt_append, cnt_append, cnt_append, cnt_cons, cnt_nil]
        dsimp only
        omega).uniq (rfOf_ok _)
    simp only [wrap_i64 (show -9223372036854775808 ≤ (cnt (w l ++ st.lv) v : Int) + 1 by omega) (show (cnt (w l ++ st.lv) v : Int) + 1 ≤ 9223372036854775807 by omega), mset_of hrF v ((cnt (w l ++ st.lv) v : Int) + 1) (w := .one (.int .i64 ((cnt (w l ++ st.lv) v : Int) + 1))) rfl, Option.bind_some, e1]
    rw [hF, hF, List.set_set]
  · rw [← hhd]
    have : (F (l ++ [k])).mpAt cl = H0.mpAt cl := by
      unfold Heap.mpAt; rw [hF, set_get' (Ne.symm hc1)]
    simp only [mhead, Option.bind_some, this]
/-- What has come of a state. -/
structure Res (H : Heap) (a : SaA) (st : Sta) (G : Heap) (a' : SaA) (st' : Sta) : Prop where
  s : StAt G a' st'
  c : a'.c = a.c
  k : Keep (a.fp st) H G
  n : ∀ b, a'.fp st' b → a.fp st b ∨ H.length ≤ b
theorem Res.same (h : StAt H a st) {G : Heap} (k : Keep (fun _ => False) H G) : Res H a st G a st := ⟨h.keep k fun _ _ => id, rfl, k.mono fun _ hf => hf.elim, fun _ hb => .inl hb⟩
theorem Res.trans {G K : Heap} {a' a'' : SaA} {st' st'' : Sta} (h : Res H a st G a' st') (h' : Res G a' st' K a'' st'') : Res H a st K a'' st'' :=
  ⟨h'.s, h'.c.trans h.c, h.k.trans2 h'.k fun b hb hf => (h.n b hf).elim id fun hh => absurd hb (by omega), fun b hb => (h'.n b hb).elim (h.n b) fun hh => .inr (Nat.le_trans h.k.len hh)⟩
theorem Res.pre {G K : Heap} {a' : SaA} {st' : Sta} (h : Res G a st K a' st') (k : Keep (fun _ => False) H G) : Res H a st K a' st' :=
  ⟨h.s, h.c, (k.mono fun _ hf => hf.elim).trans h.k, fun b hb => (h.n b hb).imp_right (Nat.le_trans k.len)⟩
def Sta.openS (st : Sta) (id q : Int) (P : List (Int × Int)) : Int × Sta :=
  if (afind st.sp id).isSome = true then (80, st) else (0, ⟨ains st.sp id (q, false), insAll id st.lv P, st.bd, st.wn⟩)
theorem st_open (h : StAt H a st) {id q : Int} (hid : 1 ≤ id ∧ id ≤ 15) (hq : q ≤ 1024) {m : Nat} {P : List (Int × Int)} (hm : MpA H m inW P) (hP : Asc P) (hpb : ∀ x ∈ P, 0 ≤ x.1 ∧ x.1 < 1024) :
    ∃ G a', state_State_open (some (a.c, 0)) id (q, false, some m, ()) H = some (((st.openS id q P).1, ()), G) ∧ Res H a st G a' (st.openS id q P).2 := by
  have h1 := h.push (.cells [.int .i64 q, .bool false, .mp (some m)] .exact)
  have hpl : P.length ≤ 1024 := asc_bound (a := 0) hP fun x hx => by have := hpb x hx; omega
  unfold state_State_open Sta.openS
  simp only [Option.bind_some, h1.r0, h1.sp.space]
  cases hx : afind st.sp id with
  | some x =>
    simp only [Option.isSome_some, if_true, spV, Option.bind_some, Option.map_some, cond_true, cond_false, List.append_assoc, List.cons_append, List.nil_append, List.length_append, List.length_cons, List.length_nil, Nat.zero_add, rd_t0, rd_t1, rdI_t0, rdI_t1, rdB_t0, rdB_t1, rdM_t0, rdM_t1, rd_c1, rdI_c1, rdB_c1, rdM_c1, rdI_c0, rdB_c0, rdM_c0, wr_t0, wr_t1, wr_c0, wr_c1, setL, List.set, List.getElem?_cons_zero, List.getElem?_cons_succ, un_i, un_b, un_m, un_s, Nat.le_refl, rd_iiib, rd_iiiiii, rd_ibm, rd_iii, rd_iib, rd_ii, rd_3312, rd_iiii, rd_si, rd_33121, rd_33121i, slRow_t0, slRow_t1, sl_c0, sl_c1]
    exact ⟨_, a, rfl, Res.same h (Keep.app _ _ _)⟩
  | none =>
    have hmk := hm.keep (F := fun _ => False) (Keep.app _ H [.cells [.int .i64 q, .bool false, .mp (some m)] .exact,   .cells [.int .i64 0, .bool false, .mp none] .exact]) fun hf => hf
    have hcl := hmk.clone
    simp only [Option.isSome_none, Bool.false_eq_true, if_false, spV, Option.bind_some, Option.map_some, cond_true, cond_false, List.append_assoc, List.cons_append, List.nil_append, List.length_append, List.length_cons, List.length_nil, Nat.zero_add, rd_t0, rd_t1, rdI_t0, rdI_t1, rdB_t0, rdB_t1, rdM_t0, rdM_t1, rd_c1, rdI_c1, rdB_c1, rdM_c1, rdI_c0, rdB_c0, rdM_c0, wr_t0, wr_t1, wr_c0, wr_c1, setL, List.set, List.getElem?_cons_zero, List.getElem?_cons_succ, un_i, un_b, un_m, un_s, Nat.le_refl, rd_iiib, rd_iiiiii, rd_ibm, rd_iii, rd_iib, rd_ii, rd_3312, rd_iiii, rd_si, rd_33121, rd_33121i, slRow_t0, slRow_t1, sl_c0, sl_c1] at hcl ⊢
    simp only [hcl, Option.bind_some, Option.map_some, cond_true, cond_false, List.append_assoc, List.cons_append, List.nil_append, List.length_append, List.length_cons, List.length_nil, Nat.zero_add, rd_t0, rd_t1, rdI_t0, rdI_t1, rdB_t0, rdB_t1, rdM_t0, rdM_t1, rd_c1, rdI_c1, rdB_c1, rdM_c1, rdI_c0, rdB_c0, rdM_c0, wr_t0, wr_t1, wr_c0, wr_c1, setL, List.set, List.getElem?_cons_zero, List.getElem?_cons_succ, un_i, un_b, un_m, un_s, Nat.le_refl, rd_iiib, rd_iiiiii, rd_ibm, rd_iii, rd_iib, rd_ii, rd_3312, rd_iiii, rd_si, rd_33121, rd_33121i, slRow_t0, slRow_t1, sl_c0, sl_c1]
    have h0 : StAt (H ++ [.cells [.int .i64 q, .bool false, .mp (some (H.length + (1 + 1)))] .exact, .cells [.int .i64 0, .bool false, .mp none] .exact, .mp (encA inW P) 0, .dead]) a st := h.keep (Keep.app (fun _ => False) _ _) fun _ _ hf => hf
    obtain ⟨G, dr, e1, e2⟩ := open_loop h0 hP hpl (cl := H.length + (1 + 1)) (by rw [tl_get1]; rfl) (by have := h.rf.lt; omega)
    generalize hH0 : H ++ [Blk.cells [.int .i64 q, .bool false, .mp (some (H.length + (1 + 1)))] .exact, .cells [.int .i64 0, .bool false, .mp none] .exact, .mp (encA inW P) 0, .dead] = H0 at h0 e1 e2
    have hb0 : H0[H.length]? = some (.cells [.int .i64 q, .bool false, .mp (some (H.length + (1 + 1)))] .exact) := by rw [← hH0, tl_get0]; rfl
    have hb2 : H0[H.length + (1 + 1)]? = some (.mp (encA inW P) 0) := by rw [← hH0, tl_get1]; rfl
    have hk0 : Keep (fun _ => False) H H0 := by rw [← hH0]; exact Keep.app _ _ _
    have hnd := h.nd
    obtain ⟨ds, hS⟩ := h0.sp
    have hsr := h0.rf.lt
    have hrl := h.rf.lt
    have hsl := h.sp.lt
    have hss := get_lt hS
    have hcc : a.c ≠ a.rf := fun e => by obtain ⟨_, hr⟩ := h.rf; have := h.c; rw [e, hr] at this; cases this
    have hcs : a.c ≠ a.sp := fun e => by obtain ⟨_, hr⟩ := h.sp; have := h.c; rw [e, hr] at this; cases this
    have hGc : G[a.c]? = some (.cells [.mp (some a.sp), .mp (some a.rf), .mp (some a.bd), .mp (some a.wn)] .exact) := by rw [e2, set_get' hcc.symm]; exact h0.c
    have hGb : G[H.length]? = some (.cells [.int .i64 q, .bool false, .mp (some (H.length + (1 + 1)))] .exact) := by rw [e2, set_get' (by omega)]; exact hb0
    have hin : ∀ y ∈ st.sp, y.1 ≠ id := fun y hy e => by
      have := h.w.sp.find (k := y.1) (v := y.2) hy
      rw [e, hx] at this; cases this
    have hpgs : ∀ y ∈ st.sp, spW a.pg y.1 y.2 = spW (fun j => if j = id then H.length + (1 + 1) else a.pg j) y.1 y.2 := fun y hy => by
      simp only [spW, if_neg (hin y hy)]
    have hGs : G[a.sp]? = some (.mp (encA (spW fun j => if j = id then H.length + (1 + 1) else a.pg j) st.sp) ds) := by
      rw [e2, set_get' (fun e => hnd.1 e.symm), hS, enc_congr hpgs]
    have hset := mset_of hGs id (q, false) (w := .agg [.int .i64 q, .bool false, .mp (some (H.length + (1 + 1)))]) (by simp only [spW, if_pos])
    have hfk : ∀ x ∈ P, afind st.lv (id * 1024 + x.1) = none := fun x hxP => free_keys h.w hx (hpb x hxP)
    have hrf : rfOf (P ++ st.lv) = rfOf (insAll id st.lv P) := (rfOf_ok _).uniq ⟨(rfOf_ok _).asc, fun c => by rw [(rfOf_ok _).find, insAll_cnt c h.w.lv hP hfk, cnt_append]⟩
    have hlvf : ∀ j, afind (insAll id st.lv P) j = (afind P (j - id * 1024)).or (afind st.lv j) := fun j => insAll_find j h.w.lv hP
    have hasc := insAll_asc (id := id) (P := P) h.w.lv
    have hP0 : ∀ k, ¬ (0 ≤ k ∧ k < 1024) → afind P k = none := fun k hk => afind_none fun x hxP e => hk (by have := hpb x hxP; omega)
    have hpid : pgs (insAll id st.lv P) id = P := asc_ext (pgs_asc hasc id) hP fun k => by
      rw [pgs_find hasc]
      by_cases e : 0 ≤ k ∧ k < 1024
      · rw [if_pos e, hlvf, free_keys h.w hx e, show id * 1024 + k - id * 1024 = k by omega, Option.or_none]
      · rw [if_neg e, hP0 k e]
    have hpother : ∀ j, j ≠ id → pgs (insAll id st.lv P) j = pgs st.lv j := fun j hj => asc_ext (pgs_asc hasc j) (pgs_asc h.w.lv j) fun k => by
      rw [pgs_find hasc, pgs_find h.w.lv]
      by_cases e : 0 ≤ k ∧ k < 1024
      · rw [if_pos e, if_pos e, hlvf, hP0 _ (by omega), Option.none_or]
      · rw [if_neg e, if_neg e]
    have hsf : ∀ j, afind (ains st.sp id (q, false)) j = if j = id then some (q, false) else afind st.sp j := fun j => afind_ins h.w.sp _ _ _
    have w' : SaW ⟨ains st.sp id (q, false), insAll id st.lv P, st.bd, st.wn⟩ := ⟨h.w.sp.ins _ _, hasc, h.w.bd, h.w.wn, fun y hy => by
        have hf := hasc.find (k := y.1) (v := y.2) hy
        rw [hlvf] at hf
        show (afind (ains st.sp id (q, false)) (y.1 / 1024)).isSome = true
        rw [hsf]
        by_cases e : y.1 / 1024 = id
        · rw [if_pos e]; rfl
        · rw [if_neg e]
          rw [hP0 _ (by omega), Option.none_or] at hf
          exact h.w.own _ (afind_mem hf), fun y hy => by
        rcases ains_mem hy with rfl | hy
        · exact ⟨hid.1, hid.2, hq⟩
        · exact h.w.ids y hy, h.w.bds, h.w.wns⟩
    have hk1 : Keep (fun b => b = a.rf ∨ b = a.sp) H0 (G.set a.sp (.mp (encA (spW fun j => if j = id then H.length + (1 + 1) else a.pg j) (ains st.sp id (q, false))) ds)) := by
      rw [e2]; exact set2_keep _ _ _ _ _
    refine ⟨G.set a.sp (.mp (encA (spW fun j => if j = id then H.length + (1 + 1) else a.pg j) (ains st.sp id (q, false))) ds), { a with pg := fun j => if j = id then H.length + (1 + 1) else a.pg j }, (bind_to e1).trans ?_, ⟨w', ?_, ⟨ds, ?_⟩, ?_, ⟨dr, ?_⟩, ?_, ?_, hnd, ?_, ?_⟩, rfl, ?_, ?_⟩
    rotate_left
    · exact hk1.get h0.c fun hf => hf.elim hcc hcs
    · exact set_get (by rw [e2]; simpa using hss)
    · intro j x hj
      rw [show afind (ains st.sp id (q, false)) j = _ from hsf j] at hj
      show MpA _ (if j = id then H.length + (1 + 1) else a.pg j) inW (pgs (insAll id st.lv P) j)
      by_cases e : j = id
      · rw [if_pos e, e, hpid]
        exact ⟨0, hk1.get hb2 (by omega)⟩
      · rw [if_neg e] at hj ⊢
        rw [hpother j e]
        have := h.pn j x hj
        exact (h0.pg j x hj).keep hk1 (by omega)
    · rw [set_get' (fun e => hnd.1 e), e2, set_get hsr, hrf]
    · exact h0.bd.keep hk1 (by omega)
    · exact h0.wn.keep hk1 (by omega)
    · intro j x hj
      rw [show afind (ains st.sp id (q, false)) j = _ from hsf j] at hj
      show (if j = id then H.length + (1 + 1) else a.pg j) ≠ a.sp ∧ (if j = id then H.length + (1 + 1) else a.pg j) ≠ a.rf ∧ (if j = id then H.length + (1 + 1) else a.pg j) ≠ a.bd ∧ (if j = id then H.length + (1 + 1) else a.pg j) ≠ a.wn
      have hbl := h.bd.lt
      have hwl := h.wn.lt
      by_cases e : j = id
      · rw [if_pos e]; omega
      · rw [if_neg e] at hj ⊢
        exact h.pn j x hj
    · intro j x j' x' hj hj' hjj
      rw [show afind (ains st.sp id (q, false)) j = _ from hsf j] at hj
      rw [show afind (ains st.sp id (q, false)) j' = _ from hsf j'] at hj'
      have hjj : (if j = id then H.length + (1 + 1) else a.pg j) = (if j' = id then H.length + (1 + 1) else a.pg j') := hjj
      by_cases e : j = id
      · by_cases e' : j' = id
        · rw [e, e']
        · rw [if_pos e, if_neg e'] at hjj
          rw [if_neg e'] at hj'
          have := (h.pg j' x' hj').lt
          omega
      · by_cases e' : j' = id
        · rw [if_neg e, if_pos e'] at hjj
          rw [if_neg e] at hj
          have := (h.pg j x hj).lt
          omega
        · rw [if_neg e, if_neg e'] at hjj
          rw [if_neg e] at hj
          rw [if_neg e'] at hj'
          exact h.pi j x j' x' hj hj' hjj
    · exact (hk0.mono fun _ hf => hf.elim).trans (hk1.mono fun b hb => hb.elim (fun e => .inr (.inr (.inl e))) fun e => .inr (.inl e))
    · rintro b (e | e | e | e | e | ⟨j, x, hj, e⟩)
      · exact .inl (.inl e)
      · exact .inl (.inr (.inl e))
      · exact .inl (.inr (.inr (.inl e)))
      · exact .inl (.inr (.inr (.inr (.inl e))))
      · exact .inl (.inr (.inr (.inr (.inr (.inl e)))))
      · rw [show afind (ains st.sp id (q, false)) j = _ from hsf j] at hj
        have e : b = if j = id then H.length + (1 + 1) else a.pg j := e
        by_cases e2 : j = id
        · rw [if_pos e2] at e
          exact .inr (by omega)
        · rw [if_neg e2] at e hj
          exact .inl (.inr (.inr (.inr (.inr (.inr ⟨j, x, hj, e⟩)))))
    · simp only [rdM_of hGc (o := 0) rfl, Option.bind_some]
      refine (bind_to (show rd G (.agg [.int .i64, .bool, .mp]) H.length 0 = (some (q, false, some (H.length + (1 + 1)), ()) : Option (Int × Bool × Option Nat × Unit)) from rd_agg_of hGb (by simp) rfl)).trans ?_
      simp only [hset, Option.bind_some]
end
end Ev
