/- A page is pointed somewhere, or nowhere. -/
import Derived.Test.YtfmefnejaocopaaSStB
set_option linter.unusedSimpArgs false
set_option linter.unusedVariables false
namespace Ev
open Go (IntKind)

section
variable {α : Type} {H : Heap} {b : Nat} {f : Int → α → W} {l : List (Int × α)} {dc : Nat}
theorem mset_of (h : H[b]? = some (.mp (encA f l) dc)) (k : Int) (v : α) {w : W} (hw : w = f k v) : mset H (some b) k w = some (H.set b (.mp (encA f (ains l k v)) dc)) := by
  subst hw
  simp only [mset, Option.bind_some, mpAt_of h, mins_enc]
theorem mdel_of (h : H[b]? = some (.mp (encA f l) dc)) (k : Int) : mdel H (some b) k = some (H.set b (.mp (encA f (adrop l k)) (dc + 1))) := by
  simp only [mdel, mpAt_of h, Option.bind_some, mdrop_enc]
end
theorem new_st (H : Heap) : ∃ a, state_New H = some ((some (H.length + 4, 0), ()), H ++ [.mp [] 0, .mp [] 0, .mp [] 0, .mp [] 0, .cells [.mp (some H.length), .mp (some (H.length + 1)), .mp (some (H.length + 2)), .mp (some (H.length + 3))] .exact]) ∧ a.c = H.length + 4 ∧
    StAt (H ++ [.mp [] 0, .mp [] 0, .mp [] 0, .mp [] 0, .cells [.mp (some H.length), .mp (some (H.length + 1)), .mp (some (H.length + 2)), .mp (some (H.length + 3))] .exact]) a ⟨[], [], [], []⟩ ∧ ∀ b, a.fp ⟨[], [], [], []⟩ b → H.length ≤ b := by
  refine ⟨⟨H.length + 4, H.length, H.length + 1, H.length + 2, H.length + 3, fun _ => 0⟩, ?_, rfl, ?_, ?_⟩
  · unfold state_New
    simp only [List.append_assoc, List.cons_append, List.nil_append, List.length_append, List.length_cons, List.length_nil, Nat.zero_add]
  · refine ⟨⟨Asc.nil, Asc.nil, Asc.nil, Asc.nil, fun x hx => absurd hx List.not_mem_nil, fun x hx => absurd hx List.not_mem_nil, fun x hx => absurd hx List.not_mem_nil, fun x hx => absurd hx List.not_mem_nil⟩, ?_, ⟨0, ?_⟩, fun id x hx => (by cases hx), ⟨0, ?_⟩, ⟨0, ?_⟩, ⟨0, ?_⟩, ?_, fun id x hx => (by cases hx), fun id x id' x' hx => (by cases hx)⟩
    · rw [tl_get1]; rfl
    · rw [tl_get0]; rfl
    · rw [tl_get1]; rfl
    · rw [tl_get1]; rfl
    · rw [tl_get1]; rfl
    · simp only; omega
  · rintro b (rfl | rfl | rfl | rfl | rfl | ⟨id, x, hx, _⟩)
    · simp only; omega
    · exact Nat.le_refl _
    · simp only; omega
    · simp only; omega
    · simp only; omega
    · cases hx

/-- What point does once the page is free. -/
def pointT (x0 : Ptr) (xb : Nat) (x2 x3 : Int) (G : Heap) : Option (Unit × Heap) :=
 cond (decide (0 ≤ x3)) (
 (rdM G xb 2).bind fun (v19 : Option Nat) =>
 (mset G v19 x2 (.one (.int .i64 x3))).bind fun (H20 : Heap) =>
 (x0).bind fun (a21 : Nat × Nat) =>
 (rdM H20 a21.1 (a21.2 + 1)).bind fun (v22 : Option Nat) =>
 Option.bind (α := (Int × Bool)) (mget H20 (.one (.int .i64)) (.one (.int .i64 0)) v22 x3) fun (v23 : (Int × Bool)) =>
 (mset H20 v22 x3 (.one (.int .i64 (IntKind.wrap .i64 (v23.1 + 1))))).bind fun (H24 : Heap) =>
 some ((()), H24)) (
 some ((()), G))
section
variable {H : Heap} {c rfb pgb dr dp : Nat} {sp bd wn : Option Nat} {P rf : List (Int × Int)} {q : Int} {s : Bool} {p x3 v : Int}
theorem point_none (hp : H[pgb]? = some (.mp (encA inW P) dp)) (hv : afind P p = none) :
    state_State_point (some (c, 0)) (q, s, some pgb, ()) p x3 H = pointT (some (c, 0)) H.length p x3 (H ++ [.cells [.int .i64 q, .bool s, .mp (some pgb)] .exact]) := by
  have hp1 : MpA (H ++ [.cells [.int .i64 q, .bool s, .mp (some pgb)] .exact]) pgb inW P := ⟨dp, by rw [app_lt (get_lt hp)]; exact hp⟩
  unfold state_State_point
  dsimp only
  refine (bind_to (v := ((), H ++ [Blk.cells [.int .i64 q, .bool s, .mp (some pgb)] .exact])) ?_).trans rfl
  simp only [rdM_t0, rdM_c0, List.getElem?_cons_succ, List.getElem?_cons_zero, Option.bind_some, un_m, hp1.int, hv, Option.isSome_none, cond_false]
/-- One less of what stood there. -/
def lessT (rf : List (Int × Int)) (v n : Int) : List (Int × Int) := if n = 0 then adrop (ains rf v n) v else ains rf v n
theorem point_some (hc : H[c]? = some (.cells [.mp sp, .mp (some rfb), .mp bd, .mp wn] .exact)) (hr : H[rfb]? = some (.mp (encA inW rf) dr)) (hp : H[pgb]? = some (.mp (encA inW P) dp)) (hne : rfb ≠ pgb) (has : Asc rf)
    {n : Int} (hv : afind P p = some v) (hn : (afind rf v).getD 0 = n + 1) (hn0 : 0 ≤ n ∧ n < 1000000) :
    state_State_point (some (c, 0)) (q, s, some pgb, ()) p x3 H = pointT (some (c, 0)) H.length p x3
      (((H ++ [Blk.cells [.int .i64 q, .bool s, .mp (some pgb)] .exact]).set rfb (.mp (encA inW (lessT rf v n)) (dr + if n = 0 then 1 else 0))).set pgb (.mp (encA inW (adrop P p)) (dp + 1))) := by
  have hcl := get_lt hc
  have hrl := get_lt hr
  have hpl := get_lt hp
  generalize hG : H ++ [Blk.cells [.int .i64 q, .bool s, .mp (some pgb)] .exact] = G
  have gc : G[c]? = some (.cells [.mp sp, .mp (some rfb), .mp bd, .mp wn] .exact) := by rw [← hG, app_lt hcl]; exact hc
  have gr : G[rfb]? = some (.mp (encA inW rf) dr) := by rw [← hG, app_lt hrl]; exact hr
  have gp : G[pgb]? = some (.mp (encA inW P) dp) := by rw [← hG, app_lt hpl]; exact hp
  have gx : G[H.length]? = some (.cells [.int .i64 q, .bool s, .mp (some pgb)] .exact) := by rw [← hG]; exact app_last
  have hcr : c ≠ rfb := fun e => by rw [e, hr] at hc; cases hc
  have hcp : c ≠ pgb := fun e => by rw [e, hp] at hc; cases hc
  have g7c : (G.set rfb (.mp (encA inW (ains rf v n)) dr))[c]? = some (.cells [.mp sp, .mp (some rfb), .mp bd, .mp wn] .exact) := by rw [set_get' (Ne.symm hcr)]; exact gc
  have g7r : (G.set rfb (.mp (encA inW (ains rf v n)) dr))[rfb]? = some (.mp (encA inW (ains rf v n)) dr) := set_get (get_lt gr)
  have g7p : (G.set rfb (.mp (encA inW (ains rf v n)) dr))[pgb]? = some (.mp (encA inW P) dp) := by rw [set_get' hne]; exact gp
  have g7x : (G.set rfb (.mp (encA inW (ains rf v n)) dr))[H.length]? = some (.cells [.int .i64 q, .bool s, .mp (some pgb)] .exact) := by rw [set_get' (by omega)]; exact gx
  have m7 : mget (G.set rfb (.mp (encA inW (ains rf v n)) dr)) (.one (.int .i64)) (.one (.int .i64 0)) (some rfb) v = some (n, true) := by
    rw [MpA.int ⟨_, g7r⟩, afind_ins has, if_pos rfl]; rfl
  unfold state_State_point
  dsimp only
  simp only [hG]
  refine (bind_to (v := ((), (G.set rfb (Blk.mp (encA inW (lessT rf v n)) (dr + if n = 0 then 1 else 0))).set pgb (Blk.mp (encA inW (adrop P p)) (dp + 1)))) ?_).trans rfl
  simp only [ rdM_of gx (o := 2) rfl, Option.bind_some, MpA.int ⟨_, gp⟩, hv, Option.isSome_some, Option.getD_some, cond_true, rdM_of gc (o := 0 + 1) rfl, MpA.int ⟨_, gr⟩, hn, Int.add_sub_cancel, wrap_i64 (show -9223372036854775808 ≤ n by omega) (show n ≤ 9223372036854775807 by omega), mset_of gr v n (w := .one (.int .i64 n)) rfl, rdM_of g7c (o := 0 + 1) rfl, m7]
  by_cases h0 : n = 0
  · have g13x : ((G.set rfb (.mp (encA inW (ains rf v n)) dr)).set rfb (.mp (encA inW (adrop (ains rf v n) v)) (dr + 1)))[H.length]? = some (.cells [.int .i64 q, .bool s, .mp (some pgb)] .exact) := by rw [set_get' (by omega)]; exact g7x
    have g13p : ((G.set rfb (.mp (encA inW (ains rf v n)) dr)).set rfb (.mp (encA inW (adrop (ains rf v n) v)) (dr + 1)))[pgb]? = some (.mp (encA inW P) dp) := by rw [set_get' hne]; exact g7p
    simp only [decide_eq_true h0, cond_true, mdel_of g7r, Option.bind_some, rdM_of g13x (o := 2) rfl, mdel_of g13p]
    rw [List.set_set]
    unfold lessT
    rw [if_pos h0, if_pos h0]
  · simp only [decide_eq_false h0, cond_false, Option.bind_some, rdM_of g7x (o := 2) rfl, mdel_of g7p]
    unfold lessT
    rw [if_neg h0, if_neg h0]; rfl
theorem pointT_neg {x0 : Ptr} {xb : Nat} {G : Heap} (h : x3 < 0) : pointT x0 xb p x3 G = some ((), G) := by
  unfold pointT
  rw [decide_eq_false (by omega)]; rfl
theorem pointT_pos {G : Heap} {xb : Nat} (hc : G[c]? = some (.cells [.mp sp, .mp (some rfb), .mp bd, .mp wn] .exact)) (hr : G[rfb]? = some (.mp (encA inW rf) dr)) (hp : G[pgb]? = some (.mp (encA inW P) dp)) (hne : rfb ≠ pgb)
    (hx : G[xb]? = some (.cells [.int .i64 q, .bool s, .mp (some pgb)] .exact)) {n : Int} (hn : (afind rf x3).getD 0 = n) (hn0 : 0 ≤ n ∧ n < 1000000) (h3 : 0 ≤ x3) :
    pointT (some (c, 0)) xb p x3 G = some ((), (G.set pgb (.mp (encA inW (ains P p x3)) dp)).set rfb (.mp (encA inW (ains rf x3 (n + 1))) dr)) := by
  have hcp : pgb ≠ c := fun e => by rw [← e, hp] at hc; cases hc
  have g1 : (G.set pgb (.mp (encA inW (ains P p x3)) dp))[c]? = some (.cells [.mp sp, .mp (some rfb), .mp bd, .mp wn] .exact) := by rw [set_get' hcp]; exact hc
  have g2 : (G.set pgb (.mp (encA inW (ains P p x3)) dp))[rfb]? = some (.mp (encA inW rf) dr) := by rw [set_get' (Ne.symm hne)]; exact hr
  unfold pointT
  simp only [decide_eq_true h3, cond_true, rdM_of hx (o := 2) rfl, Option.bind_some, mset_of hp p x3 (w := .one (.int .i64 x3)) rfl, rdM_of g1 (o := 0 + 1) rfl, MpA.int ⟨_, g2⟩, hn, wrap_i64 (show -9223372036854775808 ≤ n + 1 by omega) (show n + 1 ≤ 9223372036854775807 by omega), mset_of g2 x3 (n + 1) (w := .one (.int .i64 (n + 1))) rfl]
end
section
variable {H H' : Heap} {a : SaA} {st : Sta}
theorem MpA.ne {α β : Type} {b b' : Nat} {f : Int → α → W} {g : Int → β → W} {l : List (Int × α)} {l' : List (Int × β)} (_ : MpA H b f l) (_ : MpA H b' g l') (h : b ≠ b') : b ≠ b' := h
/-- Other pages. -/
theorem StAt.lvs (h : StAt H a st) {lv : List (Int × Int)} (w : SaW ⟨st.sp, lv, st.bd, st.wn⟩) {F : Nat → Prop} (k : Keep F H H') (hF : ∀ b, F b → b = a.rf ∨ ∃ id x, afind st.sp id = some x ∧ b = a.pg id)
    (hr : MpA H' a.rf inW (rfOf lv)) (hp : ∀ id x, afind st.sp id = some x → MpA H' (a.pg id) inW (pgs lv id)) : StAt H' a ⟨st.sp, lv, st.bd, st.wn⟩ := by
  have h1 := h.nd
  have key : ∀ b, b ≠ a.rf → (∀ id x, afind st.sp id = some x → a.pg id ≠ b) → ¬ F b := fun b hb hp hf => by
    rcases hF b hf with e | ⟨id, x, hx, e⟩
    · exact hb e
    · exact hp id x hx e.symm
  refine ⟨w, k.get h.c (key _ (fun e => mp_ne h.c h.rf e.symm) fun id x hx => mp_ne h.c (h.pg id x hx)), h.sp.keep k (key _ h1.1 fun id x hx => (h.pn id x hx).1), hp, hr,
    h.bd.keep k (key _ (by omega) fun id x hx => (h.pn id x hx).2.2.1), h.wn.keep k (key _ (by omega) fun id x hx => (h.pn id x hx).2.2.2), h1, h.pn, h.pi⟩
theorem SaW.key (w : SaW st) {id p : Int} {x : Int × Bool} (hx : afind st.sp id = some x) (hp : 0 ≤ p ∧ p < 1024) (v : Int) : SaW ⟨st.sp, ains st.lv (id * 1024 + p) v, st.bd, st.wn⟩ :=
  ⟨w.sp, w.lv.ins _ _, w.bd, w.wn, fun y hy => by
    rcases ains_mem hy with rfl | hy
    · show (afind st.sp ((id * 1024 + p) / 1024)).isSome = true
      rw [(key_div id p hp.1 hp.2).1, hx]; rfl
    · exact w.own y hy, w.ids, w.bds, w.wns⟩
theorem SaW.less (w : SaW st) (k : Int) : SaW ⟨st.sp, adrop st.lv k, st.bd, st.wn⟩ :=
  ⟨w.sp, w.lv.drop _, w.bd, w.wn, fun y hy => w.own y ((adrop_sub _ _).subset hy), w.ids, w.bds, w.wns⟩
theorem lessT_eq {lv : List (Int × Int)} {k v : Int} (hv : afind lv k = some v) : lessT (rfOf lv) v (cnt (adrop lv k) v : Int) = rfOf (adrop lv k) := by
  have := (rfOf_ok lv).less (lv' := adrop lv k) (v := v) (cnt_drop hv)
  rw [← this.uniq (rfOf_ok _)]
  unfold lessT
  by_cases h0 : cnt (adrop lv k) v = 0
  · rw [if_pos h0, if_pos (by omega)]
  · rw [if_neg h0, if_neg (by omega)]
theorem moreT_eq {lv : List (Int × Int)} (h : Asc lv) {k v : Int} (hn : afind lv k = none) : ains (rfOf lv) v ((cnt lv v : Int) + 1) = rfOf (ains lv k v) :=
  ((rfOf_ok lv).more (cnt_ins h hn v)).uniq (rfOf_ok _)
theorem set2_keep (H : Heap) (b1 b2 : Nat) (x1 x2 : Blk) : Keep (fun b => b = b1 ∨ b = b2) H ((H.set b1 x1).set b2 x2) := (Keep.set _ _ _ (.inl rfl)).trans (Keep.set _ _ _ (.inr rfl))
/-- A page away. -/
theorem st_drop (h : StAt H a st) {id p : Int} {x : Int × Bool} (hx : afind st.sp id = some x) (hp : 0 ≤ p ∧ p < 1024) (x3 q : Int) (s : Bool) :
    ∃ G, state_State_point (some (a.c, 0)) (q, s, some (a.pg id), ()) p x3 H = pointT (some (a.c, 0)) H.length p x3 G ∧ StAt G a ⟨st.sp, adrop st.lv (id * 1024 + p), st.bd, st.wn⟩ ∧ Keep (fun b => b = a.rf ∨ b = a.pg id) H G ∧ G[H.length]? = some (.cells [.int .i64 q, .bool s, .mp (some (a.pg id))] .exact) := by
  obtain ⟨dp, hP⟩ := h.pg id x hx
  obtain ⟨dr, hR⟩ := h.rf
  have hl := h.pg id x hx |>.lt
  have hrl := h.rf.lt
  have hne : a.rf ≠ a.pg id := (h.pn id x hx).2.1.symm
  cases hv : afind (pgs st.lv id) p with
  | none =>
    have hv' : afind st.lv (id * 1024 + p) = none := by rw [pgs_find h.w.lv, if_pos hp] at hv; exact hv
    refine ⟨_, point_none hP hv, ?_, Keep.push _ _ _, app_last⟩
    rw [adrop_none hv']
    exact h.push _
  | some v =>
    have hv' : afind st.lv (id * 1024 + p) = some v := by rw [pgs_find h.w.lv, if_pos hp] at hv; exact hv
    have hc := cnt_drop hv' v
    rw [if_pos rfl] at hc
    have hcc := h.w.cnts v
    refine ⟨_, point_some (n := (cnt (adrop st.lv (id * 1024 + p)) v : Int)) h.c hR hP hne (rfOf_ok _).asc hv (by rw [(rfOf_ok _).get, ← hc]; rfl) ⟨by omega, by omega⟩, ?_, ?_, ?_⟩
    · refine (h.push _).lvs (h.w.less _) (set2_keep _ _ _ _ _) (fun b hb => hb.imp_right fun e => ⟨id, x, hx, e⟩) ⟨dr + (if (cnt (adrop st.lv (id * 1024 + p)) v : Int) = 0 then 1 else 0), ?_⟩ fun id' x' hx' => ?_
      · rw [set_get' hne.symm, set_get (by simp; omega), lessT_eq hv']
      · by_cases e : id' = id
        · subst e
          refine ⟨dp + 1, ?_⟩
          rw [set_get (by simp; omega), pgs_drop h.w.lv _ _ hp, if_pos rfl]
        · obtain ⟨d', h'⟩ := h.pg id' x' hx'
          refine ⟨d', ?_⟩
          rw [set_get' (fun ee => e (h.pi _ _ _ _ hx' hx ee.symm)), set_get' (h.pn id' x' hx').2.1.symm, app_lt (get_lt h'), pgs_drop h.w.lv _ _ hp, if_neg e]
          exact h'
    · exact (Keep.push _ _ _).trans (set2_keep _ _ _ _ _)
    · rw [set_get' (by omega), set_get' (by omega)]; exact app_last
theorem st_unpoint (h : StAt H a st) {id p : Int} {x : Int × Bool} (hx : afind st.sp id = some x) (hp : 0 ≤ p ∧ p < 1024) {x3 : Int} (h3 : x3 < 0) (q : Int) (s : Bool) :
    ∃ G, state_State_point (some (a.c, 0)) (q, s, some (a.pg id), ()) p x3 H = some ((), G) ∧ StAt G a ⟨st.sp, adrop st.lv (id * 1024 + p), st.bd, st.wn⟩ ∧ Keep (fun b => b = a.rf ∨ b = a.pg id) H G := by
  obtain ⟨G, g1, g2, g3, _⟩ := st_drop h hx hp x3 q s
  exact ⟨G, by rw [g1, pointT_neg h3], g2, g3⟩
theorem st_point (h : StAt H a st) {id p : Int} {x : Int × Bool} (hx : afind st.sp id = some x) (hp : 0 ≤ p ∧ p < 1024) {x3 : Int} (h3 : 0 ≤ x3) (q : Int) (s : Bool) :
    ∃ G, state_State_point (some (a.c, 0)) (q, s, some (a.pg id), ()) p x3 H = some ((), G) ∧ StAt G a ⟨st.sp, ains st.lv (id * 1024 + p) x3, st.bd, st.wn⟩ ∧ Keep (fun b => b = a.rf ∨ b = a.pg id) H G := by
  obtain ⟨G, g1, g2, g3, g4⟩ := st_drop h hx hp x3 q s
  obtain ⟨dp, hP⟩ := g2.pg id x hx
  obtain ⟨dr, hR⟩ := g2.rf
  have hne : a.rf ≠ a.pg id := (h.pn id x hx).2.1.symm
  have hasc := h.w.lv.drop (id * 1024 + p)
  have hnone : afind (adrop st.lv (id * 1024 + p)) (id * 1024 + p) = none := by rw [afind_drop h.w.lv, if_pos rfl]
  have hcc := g2.w.cnts x3
  refine ⟨_, by rw [g1, pointT_pos g2.c hR hP hne g4 ((rfOf_ok _).get x3) ⟨by omega, by omega⟩ h3], ?_, g3.trans ((Keep.set _ _ _ (.inr rfl)).trans (Keep.set _ _ _ (.inl rfl)))⟩
  rw [← ains_drop h.w.lv (id * 1024 + p) x3]
  have w' := g2.w.key hx hp x3
  refine g2.lvs w' (set2_keep _ _ _ _ _) (fun b hb => hb.symm.imp_right fun e => ⟨id, x, hx, e⟩) ⟨dr, ?_⟩ fun id' x' hx' => ?_
  · rw [set_get (by simp; exact get_lt hR), moreT_eq hasc hnone]
  · by_cases e : id' = id
    · subst e
      refine ⟨dp, ?_⟩
      rw [set_get' hne, set_get (get_lt hP), pgs_ins hasc _ _ _ hp, if_pos rfl]
    · obtain ⟨d', h'⟩ := g2.pg id' x' hx'
      refine ⟨d', ?_⟩
      rw [set_get' (h.pn id' x' hx').2.1.symm, set_get' (fun ee => e (h.pi _ _ _ _ hx' hx ee.symm)), pgs_ins hasc _ _ _ hp, if_neg e]
      exact h'
end
end Ev
