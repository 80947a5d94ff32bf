/- All pages that point to one place point to another. -/
import Derived.Test.YtfmefnejaocopaaSStE
set_option linter.unusedSimpArgs false
set_option linter.unusedVariables false
namespace Ev
open Go (IntKind)

section
variable (len : Int → Nat) (R : Int → List Blk)
def rowsK (l : List Int) : Heap := (l.map R).flatten
theorem rowsK_snoc (l : List Int) (k : Int) : rowsK R (l ++ [k]) = rowsK R l ++ R k := by simp [rowsK]
theorem rowsK_len (hR : ∀ k, (R k).length = len k) : ∀ l : List Int, (rowsK R l).length = ktot len l
  | [] => rfl
  | x :: l => by
    have := rowsK_len hR l
    unfold rowsK at this ⊢
    rw [List.map_cons, List.flatten_cons, List.length_append, hR, this]; rfl
theorem rowsK_get (hR : ∀ k, (R k).length = len k) : ∀ {l : List Int} {k : Int} {j : Nat}, k ∈ l → j < len k → (rowsK R l)[kpos len l k + j]? = (R k)[j]?
  | x :: l, k, j, h, hj => by
    have ih := rowsK_get hR (l := l) (k := k) (j := j)
    unfold rowsK at ih ⊢
    rw [List.map_cons, List.flatten_cons, kpos]
    by_cases e : x = k
    · subst e
      rw [if_pos rfl, Nat.zero_add, List.getElem?_append_left (by rw [hR]; exact hj)]
    · rw [if_neg e, List.getElem?_append_right (by rw [hR]; omega), hR, show len x + kpos len l k + j - len x = kpos len l k + j by omega]
      exact ih ((List.mem_cons.1 h).resolve_left fun hh => e hh.symm) hj
end

/-! Plain. -/
def mvd (f t : Int) (l : List Int) (P : List (Int × Int)) : List (Int × Int) := P.map fun x => if x.1 ∈ l ∧ x.2 = f then (x.1, t) else x
def mv (f t : Int) (P : List (Int × Int)) : List (Int × Int) := P.map fun x => if x.2 = f then (x.1, t) else x
theorem asc_map {α β : Type} {l : List (Int × α)} (h : Asc l) (g : Int × α → Int × β) (hg : ∀ x, (g x).1 = x.1) : Asc (l.map g) := by
  unfold Asc at *
  rw [List.pairwise_map]
  exact h.imp fun {x y} hlt => by rw [hg, hg]; exact hlt
theorem mvd_asc {f t : Int} {l : List Int} {P : List (Int × Int)} (h : Asc P) : Asc (mvd f t l P) := asc_map h _ fun x => by split <;> rfl
theorem mv_asc {f t : Int} {P : List (Int × Int)} (h : Asc P) : Asc (mv f t P) := asc_map h _ fun x => by split <;> rfl
theorem mvd_find {f t : Int} {l : List Int} (k : Int) : ∀ {P : List (Int × Int)}, afind (mvd f t l P) k = (afind P k).map fun v => if k ∈ l ∧ v = f then t else v
  | [] => rfl
  | x :: P => by
    have ih := mvd_find (f := f) (t := t) (l := l) k (P := P)
    unfold mvd at ih ⊢
    rw [List.map_cons, afind, afind]
    have e1 : (if x.1 ∈ l ∧ x.2 = f then (x.1, t) else x).1 = x.1 := by split <;> rfl
    rw [e1]
    by_cases e : x.1 = k
    · subst e
      rw [if_pos rfl, if_pos rfl, Option.map_some]
      split <;> rfl
    · rw [if_neg e, if_neg e, ih]
theorem mvd_length (f t : Int) (l : List Int) (P : List (Int × Int)) : (mvd f t l P).length = P.length := List.length_map _
theorem mv_find {f t : Int} (k : Int) : ∀ {P : List (Int × Int)}, afind (mv f t P) k = (afind P k).map fun v => if v = f then t else v
  | [] => rfl
  | x :: P => by
    have ih := mv_find (f := f) (t := t) k (P := P)
    unfold mv at ih ⊢
    rw [List.map_cons, afind, afind]
    have e1 : (if x.2 = f then (x.1, t) else x).1 = x.1 := by split <;> rfl
    rw [e1]
    by_cases e : x.1 = k
    · subst e
      rw [if_pos rfl, if_pos rfl, Option.map_some]
      split <;> rfl
    · rw [if_neg e, if_neg e, ih]
theorem mv_pgs {f t : Int} {lv : List (Int × Int)} (h : Asc lv) (id : Int) : pgs (mv f t lv) id = mv f t (pgs lv id) := asc_ext (pgs_asc (mv_asc h) _) (mv_asc (pgs_asc h _)) fun k => by
  rw [pgs_find (mv_asc h), mv_find, mv_find, pgs_find h]
  by_cases e : 0 ≤ k ∧ k < 1024
  · rw [if_pos e, if_pos e]
  · rw [if_neg e, if_neg e]; rfl
theorem mv_cnt (f t c : Int) : ∀ lv : List (Int × Int), cnt (mv f t lv) c = if c = t then cnt lv t + (if f = t then 0 else cnt lv f) else if c = f then 0 else cnt lv c
  | [] => by simp [mv, cnt_nil]
  | x :: lv => by
    have ih := mv_cnt f t c lv
    show cnt ((if x.2 = f then (x.1, t) else x) :: mv f t lv) c = _
    simp only [cnt_cons, ih]
    have e1 : (if x.2 = f then (x.1, t) else x).2 = if x.2 = f then t else x.2 := by split <;> rfl
    rw [e1]
    by_cases h1 : c = t <;> by_cases h2 : f = t <;> by_cases h3 : x.2 = f <;> by_cases h4 : c = f <;> simp only [h1, h2, h3, h4, if_true, if_false] <;> (try omega) <;> (repeat' split) <;> omega
section
variable {G H11 : Heap} {pgb dp : Nat} {P : List (Int × Int)} {f t : Int}
theorem move_inner (hp : G[pgb]? = some (.mp (encA inW P) dp)) (hP : Asc P) {q : Int} {s : Bool} (hb : G[H11.length]? = some (.cells [.int .i64 q, .bool s, .mp (some pgb)] .exact)) :
    eachW (state_State_move.s1 f t H11 (some pgb)) (some pgb) () G = some ((), G.set pgb (.mp (encA inW (mv f t P)) dp)) := by
  have hl := get_lt hp
  have hne : H11.length ≠ pgb := fun e => by rw [e, hp] at hb; cases hb
  let F : List Int → Heap := fun l => G.set pgb (.mp (encA inW (mvd f t l P)) dp)
  have hF : ∀ l, F l = G.set pgb (.mp (encA inW (mvd f t l P)) dp) := fun _ => rfl
  have hFp : ∀ l, (F l)[pgb]? = some (.mp (encA inW (mvd f t l P)) dp) := fun l => by rw [hF, set_get hl]
  have hFb : ∀ l, (F l)[H11.length]? = some (.cells [.int .i64 q, .bool s, .mp (some pgb)] .exact) := fun l => by rw [hF, set_get' hne.symm]; exact hb
  have hnil : mvd f t [] P = P := (List.map_congr_left fun x _ => by rw [if_neg (fun hh => absurd hh.1 List.not_mem_nil)]; rfl).trans (List.map_id P)
  have hall : mvd f t (P.map Prod.fst) P = mv f t P := List.map_congr_left fun x hx => by
    have : x.1 ∈ P.map Prod.fst := List.mem_map.2 ⟨x, hx, rfl⟩
    by_cases e : x.2 = f
    · rw [if_pos ⟨this, e⟩, if_pos e]
    · rw [if_neg (fun hh => e hh.2), if_neg e]
  have hm : MpA G pgb inW P := ⟨dp, hp⟩
  have hperm : ∀ l l' : List Int, (∀ x, x ∈ l ↔ x ∈ l') → mvd f t l P = mvd f t l' P := fun l l' hl => List.map_congr_left fun x _ => by
    by_cases e : x.1 ∈ l ∧ x.2 = f
    · rw [if_pos e, if_pos ⟨(hl _).1 e.1, e.2⟩]
    · rw [if_neg e, if_neg (fun hh => e ⟨(hl _).2 hh.1, hh.2⟩)]
  have hhd : ∀ l, mhead (F l) (some pgb) = some (P.length, dp) := fun l => by
    simp only [mhead, Option.bind_some, mpAt_of (hFp l), enc_length, mvd_length]
  have hres := eachW_of (step := state_State_move.s1 f t H11 (some pgb)) (m := some pgb) (s := ()) (H := G) (ks := P.map Prod.fst) (hd := (P.length, dp)) hm.keys (by rw [← hhd []]; rw [hF, hnil, set_same hp]) (keys_nodup hP) (fun _ => ()) F rfl (by rw [hF, hnil]; exact set_same hp)
    (fun l k hl hn hk hkl => ⟨by
      obtain ⟨v, hv⟩ := Option.isSome_iff_exists.1 (afind_isSome.2 hk)
      have hv1 : afind (mvd f t l P) k = some v := by rw [mvd_find, hv, Option.map_some, if_neg (fun hh => hkl hh.1)]
      have hm1 : mat (F l) (.one (.int .i64)) (some pgb) k = some v := MpA.mat ⟨_, hFp l⟩ (.one (.int .i64)) k (by rw [hv1]; rfl)
      have hfs : ∀ k', afind (mvd f t (l ++ [k]) P) k' = if k' = k then some (if v = f then t else v) else afind (mvd f t l P) k' := fun k' => by
        rw [mvd_find, mvd_find]
        by_cases e : k' = k
        · subst e
          rw [if_pos rfl, hv, Option.map_some]
          by_cases e2 : v = f
          · rw [if_pos ⟨by simp, e2⟩, if_pos e2]
          · rw [if_neg (fun hh => e2 hh.2), if_neg e2]
        · rw [if_neg e]
          congr 1
          funext w
          have : k' ∈ l ++ [k] ↔ k' ∈ l := by simp [e]
          simp only [this]
      unfold state_State_move.s1
      refine (bind_to hm1).trans ?_
      by_cases e : v = f
      · have hset := mset_of (hFp l) k t (w := .one (.int .i64 t)) rfl
        simp only [decide_eq_true e, cond_true, rdM_of (hFb l) (o := 2) rfl, Option.bind_some, hset]
        rw [hF, hF, List.set_set, show ains (mvd f t l P) k t = mvd f t (l ++ [k]) P from asc_ext ((mvd_asc hP).ins _ _) (mvd_asc hP) fun k' => by rw [afind_ins (mvd_asc hP), hfs, if_pos e]]
      · simp only [decide_eq_false e, cond_false]
        rw [hF, hF, show mvd f t (l ++ [k]) P = mvd f t l P from asc_ext (mvd_asc hP) (mvd_asc hP) fun k' => by
          rw [hfs, if_neg e]
          by_cases e2 : k' = k
          · rw [if_pos e2, e2, hv1]
          · rw [if_neg e2]], hhd _⟩)
    (fun l hl => ⟨rfl, by rw [hF, hF, hperm l _ fun x => hl.mem_iff]; exact Alike.refl _ _⟩)
  rw [hres, hF, hall]
end
/-- A block of pages that point elsewhere. -/
def mvE (f t : Int) (es : MEs) : MEs := es.map fun e => if e.2 = .one (.int .i64 f) then (e.1, .one (.int .i64 t)) else e
def mvB (f t : Int) : Blk → Blk
  | .mp es dc => .mp (mvE f t es) dc
  | x => x
theorem mvE_enc (f t : Int) (P : List (Int × Int)) : mvE f t (encA inW P) = encA inW (mv f t P) := by
  unfold mvE encA mv
  rw [List.map_map, List.map_map]
  refine List.map_congr_left fun x _ => ?_
  show (if inW x.1 x.2 = .one (.int .i64 f) then (x.1, .one (.int .i64 t)) else (x.1, inW x.1 x.2)) = _
  have hi : inW x.1 x.2 = .one (.int .i64 f) ↔ x.2 = f := by unfold inW; simp
  by_cases e : x.2 = f
  · rw [if_pos (hi.2 e)]
    show _ = ((if x.2 = f then (x.1, t) else x).1, inW (if x.2 = f then (x.1, t) else x).1 (if x.2 = f then (x.1, t) else x).2)
    rw [if_pos e]; rfl
  · rw [if_neg (fun hh => e (hi.1 hh))]
    show _ = ((if x.2 = f then (x.1, t) else x).1, inW (if x.2 = f then (x.1, t) else x).1 (if x.2 = f then (x.1, t) else x).2)
    rw [if_neg e]
theorem enc_ren (π : Nat → Nat) (P : List (Int × Int)) (dc : Nat) : Blk.ren π (.mp (encA inW P) dc) = .mp (encA inW P) dc := by
  show Blk.mp ((encA inW P).map fun x => (x.1, x.2.ren π)) dc = _
  unfold encA
  rw [List.map_map]; rfl
section
variable {H H0 : Heap} {a : SaA} {st : Sta} {f t : Int}
/-- The heap once some spaces are done. -/
def mvH (H0 : Heap) (a : SaA) (f t : Int) (l : List Int) : Heap := H0.mapIdx fun b x => if (l.any fun k => a.pg k == b) = true then mvB f t x else x
def bxR (a : SaA) (st : Sta) (k : Int) : List Blk := [.cells [.int .i64 (spV a.pg k (afind st.sp k)).1, .bool (spV a.pg k (afind st.sp k)).2.1, .mp (some (a.pg k))] .exact, .dead]
theorem mvH_get (b : Nat) (l : List Int) : (mvH H0 a f t l)[b]? = (H0[b]?).map fun x => if (l.any fun k => a.pg k == b) = true then mvB f t x else x := by
  unfold mvH; rw [List.getElem?_mapIdx]
theorem any_no {l : List Int} {b : Nat} (h : ∀ k ∈ l, a.pg k ≠ b) : ¬ (l.any fun k => a.pg k == b) = true := by
  intro hh
  obtain ⟨k, hk, e⟩ := List.any_eq_true.1 hh
  exact h k hk (by simpa using e)
theorem any_yes {l : List Int} {k : Int} (h : k ∈ l) : (l.any fun j => a.pg j == a.pg k) = true := List.any_eq_true.2 ⟨k, h, by simp⟩
theorem move_loop (h : StAt H0 a st) :
    ∃ G, eachW (state_State_move.s2 f t (some a.sp)) (some a.sp) () H0 = some ((), G) ∧ G = mvH H0 a f t (st.sp.map Prod.fst) ++ rowsK (bxR a st) (st.sp.map Prod.fst) := by
  have hsl := h.sp.lt
  have hin : ∀ {k : Int}, k ∈ st.sp.map Prod.fst → ∃ x, afind st.sp k = some x := fun hk => Option.isSome_iff_exists.1 (afind_isSome.2 hk)
  let F : List Int → Heap := fun l => mvH H0 a f t l ++ rowsK (bxR a st) l
  have hF : ∀ l, F l = mvH H0 a f t l ++ rowsK (bxR a st) l := fun _ => rfl
  have hMl : ∀ l, (mvH H0 a f t l).length = H0.length := fun l => by unfold mvH; rw [List.length_mapIdx]
  have hR : ∀ k, (bxR a st k).length = (fun _ : Int => 2) k := fun _ => rfl
  have hlow : ∀ l b, b < H0.length → (F l)[b]? = (mvH H0 a f t l)[b]? := fun l b hb => by rw [hF, List.getElem?_append_left (by rw [hMl]; exact hb)]
  have hnil : mvH H0 a f t [] = H0 := by
    apply List.ext_getElem?
    intro b
    rw [mvH_get]
    cases H0[b]? <;> rfl
  have hspF : ∀ l, (∀ k ∈ l, k ∈ st.sp.map Prod.fst) → MpA (F l) a.sp (spW a.pg) st.sp ∧ (F l).mpAt a.sp = H0.mpAt a.sp := fun l hl => by
    have e : (F l)[a.sp]? = H0[a.sp]? := by
      rw [hlow l _ hsl, mvH_get]
      have := any_no (a := a) (l := l) (b := a.sp) fun k hk => by
        obtain ⟨x, hx⟩ := hin (hl k hk)
        exact (h.pn k x hx).1
      cases H0[a.sp]? with
      | none => rfl
      | some y => simp only [Option.map_some, if_neg this]
    exact ⟨by obtain ⟨dc, hd⟩ := h.sp; exact ⟨dc, by rw [e]; exact hd⟩, by unfold Heap.mpAt; rw [e]⟩
  obtain ⟨dc, hhd⟩ := h.sp.head
  refine ⟨F (st.sp.map Prod.fst), ?_, rfl⟩
  refine eachW_of (ks := st.sp.map Prod.fst) h.sp.keys hhd (keys_nodup h.w.sp) (fun _ => ()) F rfl (by rw [hF, hnil]; exact List.append_nil _) (fun l k hl hn hk hkl => ⟨?_, ?_⟩) (fun l hl => ⟨rfl, ?_⟩)
  · obtain ⟨x, hx⟩ := hin hk
    obtain ⟨dp, hP⟩ := h.pg k x hx
    have hpl := get_lt hP
    have hm1 : mat (F l) (.agg [.int .i64, .bool, .mp]) (some a.sp) k = (some (x.1, x.2, some (a.pg k), ()) : Option (Int × Bool × Option Nat × Unit)) := (hspF l hl).1.mat (.agg [.int .i64, .bool, .mp]) k (by rw [hx]; rfl)
    have hGp : (F l ++ [.cells [.int .i64 x.1, .bool x.2, .mp (some (a.pg k))] .exact, .dead])[a.pg k]? = some (.mp (encA inW (pgs st.lv k)) dp) := by
      rw [List.getElem?_append_left (by rw [hF, List.length_append, hMl]; omega), hlow _ _ hpl, mvH_get, hP]
      have := any_no (a := a) (l := l) (b := a.pg k) fun k' hk' e => by
        obtain ⟨x', hx'⟩ := hin (hl k' hk')
        exact hkl (h.pi _ _ _ _ hx' hx e ▸ hk')
      simp only [Option.map_some, if_neg this]
    have hin2 := move_inner (f := f) (t := t) (H11 := F l) hGp (pgs_asc h.w.lv k) (q := x.1) (s := x.2) (by rw [tl_get0]; rfl)
    unfold state_State_move.s2
    refine (bind_to hm1).trans ?_
    simp only [Option.bind_some, Option.map_some, cond_true, cond_false, List.append_assoc, List.cons_append, List.nil_append, List.length_append, List.length_cons, List.length_nil, Nat.zero_add, rd_t0, rd_t1, rdI_t0, rdI_t1, rdB_t0, rdB_t1, rdM_t0, rdM_t1, rd_c1, rdI_c1, rdB_c1, rdM_c1, rdI_c0, rdB_c0, rdM_c0, wr_t0, wr_t1, wr_c0, wr_c1, setL, List.set, List.getElem?_cons_zero, List.getElem?_cons_succ, un_i, un_b, un_m, un_s, Nat.le_refl, rd_iiib, rd_iiiiii, rd_ibm, rd_iii, rd_iib, rd_ii, rd_3312, rd_iiii, rd_si, rd_33121, rd_33121i, slRow_t0, slRow_t1, sl_c0, sl_c1]
    refine (bind_to hin2).trans ?_
    refine congrArg (fun G => some ((), G)) ?_
    show (F l ++ _).set _ _ = F (l ++ [k])
    rw [hF, hF, rowsK_snoc, List.append_assoc, List.set_append_left _ _ (by rw [hMl]; exact hpl)]
    congr 1
    · apply List.ext_getElem?
      intro b
      by_cases e : a.pg k = b
      · subst e
        rw [set_get (by rw [hMl]; exact hpl), mvH_get, hP, Option.map_some, if_pos (any_yes (by simp))]
        show _ = some (Blk.mp (mvE f t (encA inW (pgs st.lv k))) dp)
        rw [mvE_enc]
      · rw [set_get' e, mvH_get, mvH_get]
        congr 1
        funext y
        simp [e]
    · rw [show bxR a st k = [.cells [.int .i64 x.1, .bool x.2, .mp (some (a.pg k))] .exact, .dead] from by unfold bxR; rw [hx]; rfl]
  · simp only [mhead, Option.bind_some, (hspF (l ++ [k]) (fun y hy => (List.mem_append.1 hy).elim (hl y) fun e => by rw [List.mem_singleton.1 e]; exact hk)).2]
    exact hhd
  · have hany : ∀ b, (l.any fun k => a.pg k == b) = ((st.sp.map Prod.fst).any fun k => a.pg k == b) := fun b => by
      rw [Bool.eq_iff_iff, List.any_eq_true, List.any_eq_true]
      exact ⟨fun ⟨k, hk, e⟩ => ⟨k, hl.subset hk, e⟩, fun ⟨k, hk, e⟩ => ⟨k, hl.symm.subset hk, e⟩⟩
    refine alike_rows (fun _ => 2) hl (hl.nodup_iff.2 (keys_nodup h.w.sp)) (hMl _) (hMl _) _ _ (rowsK_len _ _ hR _) (rowsK_len _ _ hR _) (fun b hb => ?_) (fun k hk j hj => ?_)
    · by_cases e : (l.any fun k => a.pg k == b) = true
      · left
        obtain ⟨k, hk, e2⟩ := List.any_eq_true.1 e
        have e2 : a.pg k = b := by simpa using e2
        subst e2
        obtain ⟨x, hx⟩ := hin (hl.subset hk)
        obtain ⟨dp, hP⟩ := h.pg k x hx
        rw [mvH_get, mvH_get, hP, Option.map_some, Option.map_some, Option.map_some, if_pos (any_yes hk), if_pos (any_yes (hl.subset hk))]
        show some (Blk.mp (mvE f t (encA inW (pgs st.lv k))) dp) = some (Blk.ren _ (Blk.mp (mvE f t (encA inW (pgs st.lv k))) dp))
        rw [mvE_enc, enc_ren]
      · right
        have e' := e
        rw [hany] at e'
        rw [mvH_get, mvH_get]
        cases H0[b]? with
        | none => exact ⟨rfl, rfl⟩
        | some y => simp only [Option.map_some, if_neg e, if_neg e', and_self]
    · obtain ⟨x, hx⟩ := hin (hl.subset hk)
      have hpl := (h.pg k x hx).lt
      rw [rowsK_get (fun _ => 2) _ hR (hl.subset hk) hj, rowsK_get (fun _ => 2) _ hR hk hj]
      have h0 : j = 0 ∨ j = 1 := by have : j < 2 := hj; omega
      rcases h0 with rfl | rfl
      · show some _ = some (Blk.cells [_, _, C.mp (some (kren (fun _ => 2) H0.length l _ (a.pg k)))] _)
        rw [kren_low _ hpl]; rfl
      · rfl
end
end Ev
