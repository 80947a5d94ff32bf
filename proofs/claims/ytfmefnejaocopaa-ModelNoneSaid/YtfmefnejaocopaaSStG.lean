/- Whatever is done to a state. -/
import Derived.Test.YtfmefnejaocopaaSStF
set_option linter.unusedSimpArgs false
set_option linter.unusedVariables false
namespace Ev
open Go (IntKind)

def Sta.moveS (st : Sta) (f t : Int) : Int × Sta :=
  if cnt st.lv f = 0 then (82, st) else if 0 < cnt st.lv t then (82, st) else (0, ⟨st.sp, mv f t st.lv, st.bd, st.wn⟩)
section
variable {H : Heap} {a : SaA} {st : Sta}
theorem st_move (h : StAt H a st) (f t : Int) : ∃ G, state_State_move (some (a.c, 0)) f t H = some (((st.moveS f t).1, ()), G) ∧ Res H a st G a (st.moveS f t).2 := by
  unfold state_State_move Sta.moveS
  simp only [Option.bind_some, h.r1, h.rf.int, (rfOf_ok st.lv).get]
  by_cases h0 : cnt st.lv f = 0
  · rw [if_pos h0, decide_eq_true (show (cnt st.lv f : Int) = 0 by omega)]
    exact ⟨H, rfl, Res.same h (Keep.refl _ _)⟩
  · rw [if_neg h0, decide_eq_false (show ¬ (cnt st.lv f : Int) = 0 by omega)]
    by_cases h1 : 0 < cnt st.lv t
    · rw [if_pos h1, decide_eq_true (show (0 : Int) < (cnt st.lv t : Int) by omega)]
      exact ⟨H, rfl, Res.same h (Keep.refl _ _)⟩
    · rw [if_neg h1, decide_eq_false (show ¬ (0 : Int) < (cnt st.lv t : Int) by omega)]
      simp only [cond_false, h.r0, Option.bind_some]
      have hd := h.push .dead
      have hnd := h.nd
      obtain ⟨G, e1, e2⟩ := move_loop (f := f) (t := t) hd
      have hin : ∀ {k : Int}, k ∈ st.sp.map Prod.fst → ∃ x, afind st.sp k = some x := fun hk => Option.isSome_iff_exists.1 (afind_isSome.2 hk)
      have hMl : (mvH (H ++ [Blk.dead]) a f t (st.sp.map Prod.fst)).length = (H ++ [Blk.dead]).length := by unfold mvH; rw [List.length_mapIdx]
      have hlow : ∀ b, b < (H ++ [Blk.dead]).length → G[b]? = (mvH (H ++ [Blk.dead]) a f t (st.sp.map Prod.fst))[b]? := fun b hb => by rw [e2, List.getElem?_append_left (by rw [hMl]; exact hb)]
      have hkG : Keep (fun b => ∃ id x, afind st.sp id = some x ∧ b = a.pg id) (H ++ [Blk.dead]) G := ⟨by have := congrArg List.length e2; rw [List.length_append, hMl] at this; omega, fun b hb hf => by
        rw [hlow b hb, mvH_get]
        have := any_no (a := a) (l := st.sp.map Prod.fst) (b := b) fun k hk e => by
          obtain ⟨x, hx⟩ := hin hk
          exact hf ⟨k, x, hx, e.symm⟩
        cases (H ++ [Blk.dead])[b]? with
        | none => rfl
        | some y => simp only [Option.map_some, if_neg this]⟩
      have hGp : ∀ id x, afind st.sp id = some x → MpA G (a.pg id) inW (pgs (mv f t st.lv) id) := fun id x hx => by
        obtain ⟨dp, hP⟩ := hd.pg id x hx
        refine ⟨dp, ?_⟩
        rw [hlow _ (get_lt hP), mvH_get, hP, Option.map_some, if_pos (any_yes (afind_isSome.1 (by rw [hx]; rfl))), mv_pgs h.w.lv]
        show some (Blk.mp (mvE f t (encA inW (pgs st.lv id))) dp) = _
        rw [mvE_enc]
      have hno : ∀ b, b ≠ a.c ∨ True → (∀ id x, afind st.sp id = some x → a.pg id ≠ b) → ¬ ∃ id x, afind st.sp id = some x ∧ b = a.pg id := fun b _ hb ⟨id, x, hx, e⟩ => hb id x hx e.symm
      obtain ⟨dr, hR⟩ := hd.rf
      have hGr : G[a.rf]? = some (.mp (encA inW (rfOf st.lv)) dr) := hkG.get hR (hno _ (.inr trivial) fun id x hx => (h.pn id x hx).2.1)
      have hGc : G[a.c]? = some (.cells [.mp (some a.sp), .mp (some a.rf), .mp (some a.bd), .mp (some a.wn)] .exact) := hkG.get hd.c (hno _ (.inr trivial) fun id x hx => mp_ne h.c (h.pg id x hx))
      have hcr : a.c ≠ a.rf := fun e => by obtain ⟨_, hr⟩ := h.rf; have := h.c; rw [e, hr] at this; cases this
      have hset := mset_of hGr t (cnt st.lv f : Int) (w := .one (.int .i64 (cnt st.lv f : Int))) rfl
      have hG1c : (G.set a.rf (.mp (encA inW (ains (rfOf st.lv) t (cnt st.lv f : Int))) dr))[a.c]? = some (.cells [.mp (some a.sp), .mp (some a.rf), .mp (some a.bd), .mp (some a.wn)] .exact) := by rw [set_get' hcr.symm]; exact hGc
      have hG1r : (G.set a.rf (.mp (encA inW (ains (rfOf st.lv) t (cnt st.lv f : Int))) dr))[a.rf]? = some (.mp (encA inW (ains (rfOf st.lv) t (cnt st.lv f : Int))) dr) := set_get (get_lt hGr)
      have hne : f ≠ t := fun e => by rw [e] at h0; omega
      have hras := (rfOf_ok st.lv).asc
      have hrf : adrop (ains (rfOf st.lv) t (cnt st.lv f : Int)) f = rfOf (mv f t st.lv) := (RfOK.mk ((hras.ins _ _).drop _) fun c => by
        rw [afind_drop (hras.ins _ _), afind_ins hras, (rfOf_ok st.lv).find, mv_cnt]
        by_cases e1 : c = t
        · rw [if_pos e1, if_neg (by omega), if_pos e1, if_neg hne, if_neg (by omega)]
          congr 1; omega
        · rw [if_neg e1, if_neg e1]
          by_cases e2 : c = f
          · rw [if_pos e2, if_pos e2]; rfl
          · rw [if_neg e2, if_neg e2]).uniq (rfOf_ok _)
      refine ⟨(G.set a.rf (.mp (encA inW (ains (rfOf st.lv) t (cnt st.lv f : Int))) dr)).set a.rf (.mp (encA inW (adrop (ains (rfOf st.lv) t (cnt st.lv f : Int)) f)) (dr + 1)), (bind_to e1).trans ?_, ?_⟩
      · simp only [rdM_of hGc (o := 0 + 1) rfl, Option.bind_some, MpA.int ⟨_, hGr⟩, (rfOf_ok st.lv).get, hset, rdM_of hG1c (o := 0 + 1) rfl, mdel_of hG1r]
      · have w' : SaW ⟨st.sp, mv f t st.lv, st.bd, st.wn⟩ := ⟨h.w.sp, mv_asc h.w.lv, h.w.bd, h.w.wn, fun y hy => by
          obtain ⟨z, hz, e⟩ := List.mem_map.1 hy
          have : y.1 = z.1 := by rw [← e]; split <;> rfl
          show (afind st.sp (y.1 / 1024)).isSome = true
          rw [this]; exact h.w.own z hz, h.w.ids, h.w.bds, h.w.wns⟩
        have hk2 : Keep (fun b => b = a.rf ∨ ∃ id x, afind st.sp id = some x ∧ b = a.pg id) (H ++ [Blk.dead]) ((G.set a.rf (.mp (encA inW (ains (rfOf st.lv) t (cnt st.lv f : Int))) dr)).set a.rf (.mp (encA inW (adrop (ains (rfOf st.lv) t (cnt st.lv f : Int)) f)) (dr + 1))) :=
          (hkG.mono fun b hb => .inr hb).trans ((Keep.set _ _ _ (.inl rfl)).trans (Keep.set _ _ _ (.inl rfl)))
        refine ⟨hd.lvs w' hk2 (fun b hb => hb) ⟨dr + 1, ?_⟩ fun id x hx => ?_, rfl, ?_, fun b hb => .inl hb⟩
        · rw [set_get (by simpa using get_lt hGr), hrf]
        · exact (hGp id x hx).keep (F := fun b => b = a.rf) (Keep.trans (F := fun b => b = a.rf) (Keep.set _ _ _ rfl) (Keep.set _ _ _ rfl)) (h.pn id x hx).2.1
        · exact (Keep.push _ _ _).trans (hk2.mono fun b hb => hb.elim (fun e => .inr (.inr (.inl e))) fun e => .inr (.inr (.inr (.inr (.inr e)))))
end
theorem cond_tt {α : Type} {c : Bool} {a b : α} (h : c = true) : cond c a b = a := by rw [h]; rfl
theorem cond_ff {α : Type} {c : Bool} {a b : α} (h : c = false) : cond c a b = b := by rw [h]; rfl
/-- What a record does. -/
def Sta.applyS (st : Sta) (x : RecT) : Int × Sta :=
  if x.1 = 4 then st.openS x.2.1 x.2.2.2.2.2.1 [] else
  if x.1 = 3 then st.moveS x.2.2.2.1 x.2.2.2.2.1 else
  if x.1 = 8 then (0, ⟨st.sp, st.lv, ains st.bd x.2.2.2.1 (), st.wn⟩) else
  if x.1 = 9 then (0, ⟨st.sp, st.lv, st.bd, ains st.wn x.2.2.2.1 (if x.2.2.2.2.2.1 > (afind st.wn x.2.2.2.1).getD 0 then x.2.2.2.2.2.1 else (afind st.wn x.2.2.2.1).getD 0)⟩) else
  match afind st.sp x.2.1 with
  | none => (80, st)
  | some s =>
    if x.1 = 1 then (if x.2.2.1 < 0 then (81, st) else if s.1 ≤ x.2.2.1 then (81, st) else (0, ⟨st.sp, ains st.lv (x.2.1 * 1024 + x.2.2.1) x.2.2.2.1, st.bd, st.wn⟩)) else
    if x.1 = 2 then (if (afind (pgs st.lv x.2.1) x.2.2.1).isSome = true then (0, ⟨st.sp, adrop st.lv (x.2.1 * 1024 + x.2.2.1), st.bd, st.wn⟩) else (81, st)) else
    if x.1 = 5 then (0, ⟨adrop st.sp x.2.1, lvOff st.lv x.2.1, st.bd, st.wn⟩) else
    if x.1 = 6 then st.openS x.2.2.2.2.1 s.1 (pgs st.lv x.2.1) else (0, ⟨ains st.sp x.2.1 (s.1, true), st.lv, st.bd, st.wn⟩)
structure GoodR (x : RecT) : Prop where
  k4 : x.1 = 4 → (1 ≤ x.2.1 ∧ x.2.1 ≤ 15) ∧ x.2.2.2.2.2.1 ≤ 1024
  k6 : x.1 = 6 → 1 ≤ x.2.2.2.2.1 ∧ x.2.2.2.2.1 ≤ 15
  k8 : x.1 = 8 → 0 ≤ x.2.2.2.1 ∧ x.2.2.2.1 ≤ 31
  k9 : x.1 = 9 → 0 ≤ x.2.2.2.1 ∧ x.2.2.2.1 ≤ 31
  k1 : x.1 = 1 → 0 ≤ x.2.2.2.1
theorem chk_good {x : RecT} (h : chkR x = true) : GoodR x := by
  unfold chkR at h
  refine ⟨fun e => ?_, fun e => ?_, fun e => ?_, fun e => ?_, fun e => ?_⟩
  all_goals
    simp only [e, inAll, inB] at h
    simp at h
    omega
section
variable {H : Heap} {a : SaA} {st : Sta}
theorem SaW.bd' (w : SaW st) {b : Int} (hb : 0 ≤ b ∧ b ≤ 31) : SaW ⟨st.sp, st.lv, ains st.bd b (), st.wn⟩ :=
  ⟨w.sp, w.lv, w.bd.ins _ _, w.wn, w.own, w.ids, fun y hy => (ains_mem hy).elim (fun e => by rw [e]; exact hb) (w.bds y), w.wns⟩
theorem SaW.wn' (w : SaW st) {b : Int} (hb : 0 ≤ b ∧ b ≤ 31) (v : Int) : SaW ⟨st.sp, st.lv, st.bd, ains st.wn b v⟩ :=
  ⟨w.sp, w.lv, w.bd, w.wn.ins _ _, w.own, w.ids, w.bds, fun y hy => (ains_mem hy).elim (fun e => by rw [e]; exact hb) (w.wns y)⟩
theorem StAt.spoff (h : StAt H a st) {id : Int} (hn : pgs st.lv id = []) {ds : Nat} (hS : H[a.sp]? = some (.mp (encA (spW a.pg) st.sp) ds)) (dc : Nat) : StAt (H.set a.sp (.mp (encA (spW a.pg) (adrop st.sp id)) dc)) a ⟨adrop st.sp id, st.lv, st.bd, st.wn⟩ := by
  have hk := Keep.set (F := fun b => b = a.sp) H a.sp (.mp (encA (spW a.pg) (adrop st.sp id)) dc) rfl
  have hnd := h.nd
  have hs : ∀ {j x}, afind (adrop st.sp id) j = some x → j ≠ id ∧ afind st.sp j = some x := fun {j x} hj => by
    rw [afind_drop h.w.sp] at hj
    by_cases e : j = id
    · rw [if_pos e] at hj; cases hj
    · rw [if_neg e] at hj; exact ⟨e, hj⟩
  refine ⟨⟨h.w.sp.drop _, h.w.lv, h.w.bd, h.w.wn, fun y hy => ?_, fun y hy => h.w.ids y ((adrop_sub _ _).subset hy), h.w.bds, h.w.wns⟩, hk.get h.c (fun e => mp_ne h.c h.sp e.symm), ⟨dc, set_get (get_lt hS)⟩, fun j x hj => (h.pg j x (hs hj).2).keep hk (h.pn j x (hs hj).2).1, h.rf.keep hk (by omega), h.bd.keep hk (by omega), h.wn.keep hk (by omega), hnd, fun j x hj => h.pn j x (hs hj).2, fun j x j' x' hj hj' => h.pi j x j' x' (hs hj).2 (hs hj').2⟩
  show (afind (adrop st.sp id) (y.1 / 1024)).isSome = true
  rw [afind_drop h.w.sp, if_neg, h.w.own y hy]
  intro e
  have : (y.1 % 1024, y.2) ∈ pgs st.lv id := List.mem_map.2 ⟨y, List.mem_filter.2 ⟨hy, decide_eq_true e⟩, rfl⟩
  rw [hn] at this; exact absurd this List.not_mem_nil
theorem StAt.spset (h : StAt H a st) {id : Int} {x : Int × Bool} (hx : afind st.sp id = some x) {ds : Nat} (hS : H[a.sp]? = some (.mp (encA (spW a.pg) st.sp) ds)) (s : Bool) : StAt (H.set a.sp (.mp (encA (spW a.pg) (ains st.sp id (x.1, s))) ds)) a ⟨ains st.sp id (x.1, s), st.lv, st.bd, st.wn⟩ := by
  have hk := Keep.set (F := fun b => b = a.sp) H a.sp (.mp (encA (spW a.pg) (ains st.sp id (x.1, s))) ds) rfl
  have hnd := h.nd
  have hs : ∀ {j y}, afind (ains st.sp id (x.1, s)) j = some y → ∃ z, afind st.sp j = some z := fun {j y} hj => by
    rw [afind_ins h.w.sp] at hj
    by_cases e : j = id
    · exact ⟨x, by rw [e]; exact hx⟩
    · rw [if_neg e] at hj; exact ⟨y, hj⟩
  refine ⟨⟨h.w.sp.ins _ _, h.w.lv, h.w.bd, h.w.wn, fun y hy => ?_, fun y hy => ?_, h.w.bds, h.w.wns⟩, hk.get h.c (fun e => mp_ne h.c h.sp e.symm), ⟨ds, set_get (get_lt hS)⟩, fun j y hj => ?_, h.rf.keep hk (by omega), h.bd.keep hk (by omega), h.wn.keep hk (by omega), hnd, fun j y hj => ?_, fun j y j' y' hj hj' => ?_⟩
  · show (afind (ains st.sp id (x.1, s)) (y.1 / 1024)).isSome = true
    rw [afind_ins h.w.sp]
    split
    · rfl
    · exact h.w.own y hy
  · rcases ains_mem hy with rfl | hy
    · have := h.w.ids _ (afind_mem hx)
      exact this
    · exact h.w.ids y hy
  · obtain ⟨z, hz⟩ := hs hj
    exact (h.pg j z hz).keep hk (h.pn j z hz).1
  · obtain ⟨z, hz⟩ := hs hj
    exact h.pn j z hz
  · obtain ⟨z, hz⟩ := hs hj
    obtain ⟨z', hz'⟩ := hs hj'
    exact h.pi j z j' z' hz hz'
theorem st_apply (h : StAt H a st) {x : RecT} (g : GoodR x) : ∃ G a', state_State_apply (some (a.c, 0)) x H = some (((st.applyS x).1, ()), G) ∧ Res H a st G a' (st.applyS x).2 := by
  obtain ⟨k, id, p, pl, to, n, ⟨⟩⟩ := x
  have h1 := h.push (.cells [.int .i64 k, .int .i64 id, .int .i64 p, .int .i64 pl, .int .i64 to, .int .i64 n] .exact)
  have hk7 := Keep.app (fun _ => False) H [.cells [.int .i64 k, .int .i64 id, .int .i64 p, .int .i64 pl, .int .i64 to, .int .i64 n] .exact, .cells [.int .i64 (spV a.pg id (afind st.sp id)).1, .bool (spV a.pg id (afind st.sp id)).2.1, .mp (spV a.pg id (afind st.sp id)).2.2.1] .exact]
  have h7 := h.keep hk7 fun _ _ hf => hf
  have hres : ∀ {G a' st'}, Res _ a st G a' st' → Res H a st G a' st' := fun r => r.pre hk7
  unfold state_State_apply Sta.applyS
  simp only [Option.bind_some, h1.r0]
  simp only [h1.sp.space, Option.bind_some, Option.map_some, cond_true, cond_false, List.append_assoc, List.cons_append, List.nil_append, List.length_append, List.length_cons, List.length_nil, Nat.zero_add, rd_t0, rd_t1, rdI_t0, rdI_t1, rdB_t0, rdB_t1, rdM_t0, rdM_t1, rd_c1, rdI_c1, rdB_c1, rdM_c1, rdI_c0, rdB_c0, rdM_c0, wr_t0, wr_t1, wr_c0, wr_c1, setL, List.set, List.getElem?_cons_zero, List.getElem?_cons_succ, un_i, un_b, un_m, un_s, Nat.le_refl, rd_iiib, rd_iiiiii, rd_ibm, rd_iii, rd_iib, rd_ii, rd_3312, rd_iiii, rd_si, rd_33121, rd_33121i, slRow_t0, slRow_t1, sl_c0, sl_c1]
  by_cases h4 : k = 4
  · have hm : MpA (H ++ [.cells [.int .i64 k, .int .i64 id, .int .i64 p, .int .i64 pl, .int .i64 to, .int .i64 n] .exact, .cells [.int .i64 (spV a.pg id (afind st.sp id)).1, .bool (spV a.pg id (afind st.sp id)).2.1, .mp (spV a.pg id (afind st.sp id)).2.2.1] .exact, .mp [] 0]) (H.length + (1 + 1)) inW [] := ⟨0, by rw [tl_get1]; rfl⟩
    have h8 : StAt (H ++ [.cells [.int .i64 k, .int .i64 id, .int .i64 p, .int .i64 pl, .int .i64 to, .int .i64 n] .exact, .cells [.int .i64 (spV a.pg id (afind st.sp id)).1, .bool (spV a.pg id (afind st.sp id)).2.1, .mp (spV a.pg id (afind st.sp id)).2.2.1] .exact, .mp [] 0]) a st := h.keep (Keep.app (fun _ => False) _ _) fun _ _ hf => hf
    obtain ⟨G, a', e1, e2⟩ := st_open h8 (g.k4 h4).1 (g.k4 h4).2 hm Asc.nil fun x hx => absurd hx List.not_mem_nil
    rw [if_pos h4]
    simp only [decide_eq_true h4, cond_true]
    exact ⟨G, a', (bind_to e1).trans rfl, e2.pre (Keep.app _ _ _)⟩
  rw [if_neg h4]
  simp only [decide_eq_false h4, cond_false]
  by_cases h3 : k = 3
  · obtain ⟨G, e1, e2⟩ := st_move h7 pl to
    rw [if_pos h3]
    simp only [decide_eq_true h3, cond_true]
    exact ⟨G, a, (bind_to e1).trans rfl, hres e2⟩
  rw [if_neg h3]
  simp only [decide_eq_false h3, cond_false]
  have hnd := h.nd
  by_cases h8 : k = 8
  · obtain ⟨db, hB⟩ := h7.bd
    have hset := mset_of hB pl () (w := .one (.bool true)) rfl
    rw [if_pos h8]
    simp only [decide_eq_true h8, cond_true, h7.r2, Option.bind_some, hset]
    have hk := Keep.set (F := fun b => b = a.bd) (H ++ [.cells [.int .i64 k, .int .i64 id, .int .i64 p, .int .i64 pl, .int .i64 to, .int .i64 n] .exact, .cells [.int .i64 (spV a.pg id (afind st.sp id)).1, .bool (spV a.pg id (afind st.sp id)).2.1, .mp (spV a.pg id (afind st.sp id)).2.2.1] .exact]) a.bd (.mp (encA boW (ains st.bd pl ())) db) rfl
    refine ⟨_, a, rfl, hres ⟨⟨h.w.bd' (g.k8 h8), hk.get h7.c (fun e => mp_ne h7.c h7.bd e.symm), h7.sp.keep hk (by omega), fun j x hj => (h7.pg j x hj).keep hk (h7.pn j x hj).2.2.1, h7.rf.keep hk (by omega), ⟨db, set_get (get_lt hB)⟩, h7.wn.keep hk (by omega), hnd, h7.pn, h7.pi⟩, rfl, hk.mono fun b e => .inr (.inr (.inr (.inl e))), fun b hb => .inl hb⟩⟩
  rw [if_neg h8]
  simp only [decide_eq_false h8, cond_false]
  by_cases h9 : k = 9
  · obtain ⟨dw, hW⟩ := h7.wn
    have hset := mset_of hW pl (if n > (afind st.wn pl).getD 0 then n else (afind st.wn pl).getD 0) (w := .one (.int .i64 (if n > (afind st.wn pl).getD 0 then n else (afind st.wn pl).getD 0))) rfl
    rw [if_pos h9]
    simp only [decide_eq_true h9, cond_true, h7.r3, Option.bind_some]
    simp only [h7.wn.int, Option.bind_some, hset]
    have hk := Keep.set (F := fun b => b = a.wn) (H ++ [.cells [.int .i64 k, .int .i64 id, .int .i64 p, .int .i64 pl, .int .i64 to, .int .i64 n] .exact, .cells [.int .i64 (spV a.pg id (afind st.sp id)).1, .bool (spV a.pg id (afind st.sp id)).2.1, .mp (spV a.pg id (afind st.sp id)).2.2.1] .exact]) a.wn (.mp (encA inW (ains st.wn pl (if n > (afind st.wn pl).getD 0 then n else (afind st.wn pl).getD 0))) dw) rfl
    refine ⟨_, a, rfl, hres ⟨⟨h.w.wn' (g.k9 h9) _, hk.get h7.c (fun e => mp_ne h7.c h7.wn e.symm), h7.sp.keep hk (by omega), fun j x hj => (h7.pg j x hj).keep hk (h7.pn j x hj).2.2.2, h7.rf.keep hk (by omega), h7.bd.keep hk (by omega), ⟨dw, set_get (get_lt hW)⟩, hnd, h7.pn, h7.pi⟩, rfl, hk.mono fun b e => .inr (.inr (.inr (.inr (.inl e)))), fun b hb => .inl hb⟩⟩
  rw [if_neg h9]
  simp only [decide_eq_false h9, cond_false]
  cases hx : afind st.sp id with
  | none =>
    simp only [Option.isSome_none, Bool.not_false, cond_true]
    rw [hx] at h7 hk7
    exact ⟨_, a, rfl, Res.same h hk7⟩
  | some x =>
    rw [hx] at h7 hk7
    simp only [Option.isSome_some, Bool.not_true, cond_false, spV] at h7 hk7 ⊢
    have hkp : ∀ {G : Heap}, Keep (fun b => b = a.rf ∨ b = a.pg id) (H ++ [.cells [.int .i64 k, .int .i64 id, .int .i64 p, .int .i64 pl, .int .i64 to, .int .i64 n] .exact, .cells [.int .i64 x.1, .bool x.2, .mp (some (a.pg id))] .exact]) G → Keep (a.fp st) H G := fun hk => (hk7.mono fun _ hf => hf.elim).trans (hk.mono fun b hb => hb.elim (fun e => .inr (.inr (.inl e))) fun e => .inr (.inr (.inr (.inr (.inr ⟨id, x, hx, e⟩)))))
    have hq := (h.w.ids _ (afind_mem hx)).2.2
    by_cases k1 : k = 1
    · rw [if_pos k1]
      simp only [decide_eq_true k1, cond_true]
      by_cases p0 : p < 0
      · rw [if_pos p0]
        simp only [decide_eq_true p0, cond_true]
        exact ⟨_, a, rfl, Res.same h hk7⟩
      rw [if_neg p0]
      simp only [decide_eq_false p0, cond_false]
      by_cases p1 : x.1 ≤ p
      · rw [if_pos p1]
        exact ⟨_, a, (cond_tt (decide_eq_true p1)).trans rfl, Res.same h hk7⟩
      rw [if_neg p1]
      have hq : x.1 ≤ 1024 := hq
      obtain ⟨G, e1, e2, e3⟩ := st_point h7 hx (p := p) ⟨by omega, by omega⟩ (x3 := pl) (g.k1 k1) x.1 x.2
      exact ⟨G, a, (cond_ff (decide_eq_false p1)).trans ((bind_to e1).trans rfl), ⟨e2, rfl, hkp e3, fun b hb => .inl hb⟩⟩
    rw [if_neg k1]
    simp only [decide_eq_false k1, cond_false]
    by_cases k2 : k = 2
    · rw [if_pos k2]
      simp only [decide_eq_true k2, cond_true]
      simp only [(h7.pg id x hx).int, Option.bind_some]
      cases hp : afind (pgs st.lv id) p with
      | none =>
        simp only [Option.isSome_none, Bool.not_false, cond_true, Bool.false_eq_true, if_false]
        exact ⟨_, a, rfl, Res.same h hk7⟩
      | some v =>
        simp only [Option.isSome_some, Bool.not_true, cond_false, if_true]
        have hpb := pgs_mem (afind_mem hp)
        obtain ⟨G, e1, e2, e3⟩ := st_unpoint h7 hx (p := p) ⟨hpb.1, hpb.2.1⟩ (x3 := -1) (by decide) x.1 x.2
        exact ⟨G, a, (bind_to e1).trans rfl, ⟨e2, rfl, hkp e3, fun b hb => .inl hb⟩⟩
    rw [if_neg k2]
    simp only [decide_eq_false k2, cond_false]
    by_cases k5 : k = 5
    · rw [if_pos k5]
      simp only [decide_eq_true k5, cond_true]
      have hcl := (h7.pg id x hx).clone
      have hb7 : (H ++ [Blk.cells [.int .i64 k, .int .i64 id, .int .i64 p, .int .i64 pl, .int .i64 to, .int .i64 n] .exact, .cells [.int .i64 x.1, .bool x.2, .mp (some (a.pg id))] .exact])[H.length + 1]? = some (.cells [.int .i64 x.1, .bool x.2, .mp (some (a.pg id))] .exact) := by rw [tl_get1]; rfl
      have hr7 : rdI .i64 (H ++ [Blk.cells [.int .i64 k, .int .i64 id, .int .i64 p, .int .i64 pl, .int .i64 to, .int .i64 n] .exact, .cells [.int .i64 x.1, .bool x.2, .mp (some (a.pg id))] .exact]) H.length 1 = some id := rdI_of (by rw [tl_get0]; rfl) rfl
      have hl7 : H.length < (H ++ [Blk.cells [.int .i64 k, .int .i64 id, .int .i64 p, .int .i64 pl, .int .i64 to, .int .i64 n] .exact, .cells [.int .i64 x.1, .bool x.2, .mp (some (a.pg id))] .exact]).length := by simp
      have hg7 : (H ++ [Blk.cells [.int .i64 k, .int .i64 id, .int .i64 p, .int .i64 pl, .int .i64 to, .int .i64 n] .exact, .cells [.int .i64 x.1, .bool x.2, .mp (some (a.pg id))] .exact])[H.length]? = some (.cells [.int .i64 k, .int .i64 id, .int .i64 p, .int .i64 pl, .int .i64 to, .int .i64 n] .exact) := by rw [tl_get0]; rfl
      have hH1 : (H ++ [Blk.cells [.int .i64 k, .int .i64 id, .int .i64 p, .int .i64 pl, .int .i64 to, .int .i64 n] .exact]).length = H.length + 1 := by simp
      generalize H ++ [Blk.cells [.int .i64 k, .int .i64 id, .int .i64 p, .int .i64 pl, .int .i64 to, .int .i64 n] .exact] = H1 at hH1 ⊢
      generalize hH7 : H ++ [Blk.cells [.int .i64 k, .int .i64 id, .int .i64 p, .int .i64 pl, .int .i64 to, .int .i64 n] .exact, .cells [.int .i64 x.1, .bool x.2, .mp (some (a.pg id))] .exact] = H7 at h7 hk7 hkp hcl hb7 hr7 hl7 hg7 ⊢
      have h8 : StAt (H7 ++ [.mp (encA inW (pgs st.lv id)) 0] ++ [.dead]) a st := (h7.push _).push _
      have hrl := h7.rf.lt
      have hpl := (h7.pg id x hx).lt
      obtain ⟨G, e1, e2, e3⟩ := drop_loop (H1 := H1) (r44 := ((some H7.length, ()), H7 ++ [.mp (encA inW (pgs st.lv id)) 0])) (cl := H7.length) h8 hx rfl (by rw [hH1, List.append_assoc, List.getElem?_append_left (get_lt hb7)]; exact hb7) (by rw [List.append_assoc, tl_get0]; rfl) (by omega) (by omega)
      obtain ⟨ds, hS⟩ := e2.sp
      have hk8 : Keep (fun _ => False) H7 (H7 ++ [.mp (encA inW (pgs st.lv id)) 0] ++ [.dead]) := (Keep.push _ _ _).trans (Keep.push _ _ _)
      have hGr : rdI .i64 G H.length 1 = some id := by
        refine rdI_of (cs := [.int .i64 k, .int .i64 id, .int .i64 p, .int .i64 pl, .int .i64 to, .int .i64 n]) (bk := .exact) ?_ rfl
        refine e3.get (hk8.get hg7 fun hf => hf) ?_
        have h1r := h.rf.lt
        have h1p := (h.pg id x hx).lt
        omega
      have hpn : pgs (lvOff st.lv id) id = [] := by
        unfold pgs lvOff
        rw [List.filter_filter]
        have : (st.lv.filter fun y => decide (y.1 / 1024 = id) && !decide (y.1 / 1024 = id)) = [] := by
          rw [List.filter_eq_nil_iff]
          intro y _
          cases decide (y.1 / 1024 = id) <;> simp
        rw [this]; rfl
      refine ⟨_, a, (bind_to hcl).trans ((bind_to e1).trans ?_), ⟨e2.spoff hpn hS (ds + 1), rfl, ?_, fun b hb => ?_⟩⟩
      · simp only [e2.r0, Option.bind_some, hGr, mdel_of hS]
      · exact (hk7.mono fun _ hf => hf.elim).trans ((hk8.mono fun _ hf => hf.elim).trans ((e3.mono fun b hb => hb.elim (fun e => .inr (.inr (.inl e))) fun e => .inr (.inr (.inr (.inr (.inr ⟨id, x, hx, e⟩))))).trans (Keep.set _ _ _ (.inr (.inl rfl)))))
      · rcases hb with e | e | e | e | e | ⟨j, y, hj, e⟩
        · exact .inl (.inl e)
        · exact .inl (.inr (.inl e))
        · exact .inl (.inr (.inr (.inl e)))
        · exact .inl (.inr (.inr (.inr (.inl e))))
        · exact .inl (.inr (.inr (.inr (.inr (.inl e)))))
        · have hj : afind (adrop st.sp id) j = some y := hj
          rw [afind_drop h.w.sp] at hj
          by_cases e2 : j = id
          · rw [if_pos e2] at hj; cases hj
          · rw [if_neg e2] at hj
            exact .inl (.inr (.inr (.inr (.inr (.inr ⟨j, y, hj, e⟩)))))
    rw [if_neg k5]
    simp only [decide_eq_false k5, cond_false]
    by_cases k6 : k = 6
    · rw [if_pos k6]
      simp only [decide_eq_true k6, cond_true]
      obtain ⟨G, a', e1, e2⟩ := st_open h7 (g.k6 k6) hq (h7.pg id x hx) (pgs_asc h.w.lv id) fun y hy => ⟨(pgs_mem hy).1, (pgs_mem hy).2.1⟩
      exact ⟨G, a', (bind_to e1).trans rfl, e2.pre hk7⟩
    rw [if_neg k6]
    simp only [decide_eq_false k6, cond_false]
    have hk8 := Keep.app (fun _ => False) H [.cells [.int .i64 k, .int .i64 id, .int .i64 p, .int .i64 pl, .int .i64 to, .int .i64 n] .exact, .cells [.int .i64 x.1, .bool true, .mp (some (a.pg id))] .exact]
    have h8' := h.keep hk8 fun _ _ hf => hf
    obtain ⟨ds, hS⟩ := h8'.sp
    have hset := mset_of hS id (x.1, true) (w := .agg [.int .i64 x.1, .bool true, .mp (some (a.pg id))]) rfl
    refine ⟨_, a, Eq.trans (bind_to (v := H ++ [.cells [.int .i64 k, .int .i64 id, .int .i64 p, .int .i64 pl, .int .i64 to, .int .i64 n] .exact, .cells [.int .i64 x.1, .bool true, .mp (some (a.pg id))] .exact]) ?_) ?_, ⟨h8'.spset hx hS true, rfl, (hk8.mono fun _ hf => hf.elim).trans (Keep.set _ _ _ (.inr (.inl rfl))), fun b hb => by
      rcases hb with e | e | e | e | e | ⟨j, y, hj, e⟩
      · exact .inl (.inl e)
      · exact .inl (.inr (.inl e))
      · exact .inl (.inr (.inr (.inl e)))
      · exact .inl (.inr (.inr (.inr (.inl e))))
      · exact .inl (.inr (.inr (.inr (.inr (.inl e)))))
      · have hj : afind (ains st.sp id (x.1, true)) j = some y := hj
        rw [afind_ins h.w.sp] at hj
        by_cases e2 : j = id
        · exact .inl (.inr (.inr (.inr (.inr (.inr ⟨id, x, hx, by rw [e, e2]⟩)))))
        · rw [if_neg e2] at hj
          exact .inl (.inr (.inr (.inr (.inr (.inr ⟨j, y, hj, e⟩)))))⟩⟩
    · rfl
    · simp only [h8'.r0, Option.bind_some, Option.bind_some, Option.map_some, cond_true, cond_false, List.append_assoc, List.cons_append, List.nil_append, List.length_append, List.length_cons, List.length_nil, Nat.zero_add, rd_t0, rd_t1, rdI_t0, rdI_t1, rdB_t0, rdB_t1, rdM_t0, rdM_t1, rd_c1, rdI_c1, rdB_c1, rdM_c1, rdI_c0, rdB_c0, rdM_c0, wr_t0, wr_t1, wr_c0, wr_c1, setL, List.set, List.getElem?_cons_zero, List.getElem?_cons_succ, un_i, un_b, un_m, un_s, Nat.le_refl, rd_iiib, rd_iiiiii, rd_ibm, rd_iii, rd_iib, rd_ii, rd_3312, rd_iiii, rd_si, rd_33121, rd_33121i, slRow_t0, slRow_t1, sl_c0, sl_c1, hset]
/-- A record, looked at first. -/
def Sta.doS (st : Sta) (x : RecT) : Int × Sta := if chkR x = true then st.applyS x else (1, st)
theorem st_Apply (h : StAt H a st) (x : RecT) : ∃ G a', state_State_Apply (some (a.c, 0)) x H = some (((st.doS x).1, ()), G) ∧ Res H a st G a' (st.doS x).2 := by
  obtain ⟨k, id, p, pl, to, n, ⟨⟩⟩ := x
  have hk := Keep.app (fun _ => False) H [.cells [.int .i64 k, .int .i64 id, .int .i64 p, .int .i64 pl, .int .i64 to, .int .i64 n] .exact]
  unfold state_State_Apply Sta.doS
  simp only [Option.isNone_some, Option.bind_some, Option.map_some, cond_true, cond_false, List.append_assoc, List.cons_append, List.nil_append, List.length_append, List.length_cons, List.length_nil, Nat.zero_add, rd_t0, rd_t1, rdI_t0, rdI_t1, rdB_t0, rdB_t1, rdM_t0, rdM_t1, rd_c1, rdI_c1, rdB_c1, rdM_c1, rdI_c0, rdB_c0, rdM_c0, wr_t0, wr_t1, wr_c0, wr_c1, setL, List.set, List.getElem?_cons_zero, List.getElem?_cons_succ, un_i, un_b, un_m, un_s, Nat.le_refl, rd_iiib, rd_iiiiii, rd_ibm, rd_iii, rd_iib, rd_ii, rd_3312, rd_iiii, rd_si, rd_33121, rd_33121i, slRow_t0, slRow_t1, sl_c0, sl_c1]
  rw [show rec_Check (k, id, p, pl, to, n, ()) = _ from rec_check_eq _]
  cases hc : chkR (k, id, p, pl, to, n, ()) with
  | false =>
    rw [if_neg (by decide)]
    exact ⟨_, a, rfl, Res.same h hk⟩
  | true =>
    rw [if_pos rfl]
    obtain ⟨G, a', e1, e2⟩ := st_apply (h.keep hk fun _ _ hf => hf) (chk_good hc)
    exact ⟨G, a', (bind_to e1).trans rfl, e2.pre hk⟩
theorem st_Lay (h : StAt H a st) {id p pl : Int} (h0 : 0 ≤ pl) : ∃ G a', state_State_Lay (some (a.c, 0)) id p pl H = some (((st.applyS (1, id, p, pl, 0, 0, ())).1, ()), G) ∧ Res H a st G a' (st.applyS (1, id, p, pl, 0, 0, ())).2 := by
  unfold state_State_Lay
  simp only [Option.isNone_some, cond_false, decide_eq_false (show ¬ pl < 0 by omega)]
  obtain ⟨G, a', e1, e2⟩ := st_apply h (x := (1, id, p, pl, 0, 0, ())) ⟨fun e => by simp at e, fun e => by simp at e, fun e => by simp at e, fun e => by simp at e, fun _ => h0⟩
  exact ⟨G, a', (bind_to e1).trans rfl, e2⟩
theorem st_Lay_neg {a : SaA} {id p pl : Int} (h0 : pl < 0) : state_State_Lay (some (a.c, 0)) id p pl H = some ((1, ()), H) := by
  unfold state_State_Lay
  simp only [Option.isNone_some, cond_false, decide_eq_true h0, cond_true]
end
end Ev
